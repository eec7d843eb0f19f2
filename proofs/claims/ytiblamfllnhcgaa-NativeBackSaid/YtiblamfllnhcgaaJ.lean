/- What a Book tells. -/
import Derived.Test.YtiblamfllnhcgaaI
namespace Go.Proofs.Ytiblamfllnhcgaa
open Go.RowKit

theorem Open.book {b : Nat} {w w' : World} (h : Open b w w') : Book b w' := .inr h.2

theorem Book.alloc {b : Nat} {w : World} (h : Book b w) (o : Obj) : Book b (w.alloc o) := by
  rcases h with h | ⟨m1, m2, h, h1, h2⟩
  · exact .inl ((alloc_block_lt w o b (lt_of_block h)).trans h)
  · exact .inr ⟨m1, m2, (alloc_block_lt w o b (lt_of_block h)).trans h, (alloc_block_lt w o m1 (lt_of_block h1)).trans h1, (alloc_block_lt w o m2 (lt_of_block h2)).trans h2⟩
theorem Book.lt {b : Nat} {w : World} (h : Book b w) : b < w.heap.size := by
  rcases h with h | ⟨m1, m2, h, h1, h2⟩ <;> exact lt_of_block h

/-- The maps are those of the Book, in a world behind other doings elsewhere. -/
def Ready (b : Nat) (w : World) : Prop :=
  ∃ m1 m2, w.heap[b]? = some (.cells #[.int .u32 1, .int .i32 0, .int .u32 0, .map (some m1), .map (some m2)] 40 (0, 0)) ∧ w.heap[m1]? = some (.map (es1 45) 45) ∧ w.heap[m2]? = some (.map (es2 45) 45)
theorem Ready.book {b : Nat} {w : World} (h : Ready b w) : Book b w := .inr h
/-- Block r is a row of cells. -/
def IsCells (r : Nat) (w : World) : Prop := ∃ c e f, w.heap[r]? = some (.cells c e f)
theorem IsCells.set {r : Nat} {w : World} (h : IsCells r w) (j : Nat) (v : Value) : IsCells r (w.setCell ⟨r, j, none⟩ v) := by
  obtain ⟨c, e, f, h⟩ := h
  exact ⟨_, e, f, setCell_block w r j v c e f h⟩
theorem Ready.set {b r : Nat} {w : World} (h : Ready b w) (j : Nat) (v : Value) (hr : IsCells r w) (hb : r ≠ b) : Ready b (w.setCell ⟨r, j, none⟩ v) := by
  obtain ⟨m1, m2, h0, h1, h2⟩ := h
  obtain ⟨c, e, f, hr⟩ := hr
  have n1 : r ≠ m1 := fun e => by rw [e, h1] at hr; cases hr
  have n2 : r ≠ m2 := fun e => by rw [e, h2] at hr; cases hr
  exact ⟨m1, m2, (setCell_block_other _ _ _ _ hb).trans h0, (setCell_block_other _ _ _ _ n1).trans h1, (setCell_block_other _ _ _ _ n2).trans h2⟩
theorem KeptBut.setNew {b r : Nat} {w w' : World} (h : KeptBut b w w') (hr : w.heap.size ≤ r) (j : Nat) (v : Value) : KeptBut b w (w'.setCell ⟨r, j, none⟩ v) :=
  ⟨h.os, h.tape, h.output, by rw [setCell_size]; exact h.size, fun k hk hkb => by rw [setCell_block_other _ _ _ _ (by show r ≠ k; omega)]; exact h.block k hk hkb⟩

theorem six_sets (b r : Nat) (w w1 : World) (K : KeptBut b w w1) (R : Ready b w1) (hr : w.heap.size ≤ r) (hc : IsCells r w1) (hb : r ≠ b) (v0 v1 v2 v3 v4 v5 : Value) :
    KeptBut b w ((((((w1.setCell ⟨r, 0, none⟩ v0).setCell ⟨r, 1, none⟩ v1).setCell ⟨r, 2, none⟩ v2).setCell ⟨r, 3, none⟩ v3).setCell ⟨r, 4, none⟩ v4).setCell ⟨r, 5, none⟩ v5) ∧
    Ready b ((((((w1.setCell ⟨r, 0, none⟩ v0).setCell ⟨r, 1, none⟩ v1).setCell ⟨r, 2, none⟩ v2).setCell ⟨r, 3, none⟩ v3).setCell ⟨r, 4, none⟩ v4).setCell ⟨r, 5, none⟩ v5) :=
  ⟨(((((K.setNew hr 0 v0).setNew hr 1 v1).setNew hr 2 v2).setNew hr 3 v3).setNew hr 4 v4).setNew hr 5 v5,
   (((((R.set 0 v0 hc hb).set 1 v1 (hc.set 0 v0) hb).set 2 v2 ((hc.set 0 v0).set 1 v1) hb).set 3 v3 (((hc.set 0 v0).set 1 v1).set 2 v2) hb).set 4 v4 ((((hc.set 0 v0).set 1 v1).set 2 v2).set 3 v3) hb).set 5 v5 (((((hc.set 0 v0).set 1 v1).set 2 v2).set 3 v3).set 4 v4) hb⟩

theorem six_block (r : Nat) (w : World) (c : Array Value) (e : TypeId) (f : Nat × Nat) (h : w.heap[r]? = some (.cells c e f)) (v0 v1 v2 v3 v4 v5 : Value) (hc : ∃ a b c' d g i, c = #[a, b, c', d, g, i]) :
    ((((((w.setCell ⟨r, 0, none⟩ v0).setCell ⟨r, 1, none⟩ v1).setCell ⟨r, 2, none⟩ v2).setCell ⟨r, 3, none⟩ v3).setCell ⟨r, 4, none⟩ v4).setCell ⟨r, 5, none⟩ v5).heap[r]? = some (.cells #[v0, v1, v2, v3, v4, v5] e f) := by
  obtain ⟨x0, x1, x2, x3, x4, x5, rfl⟩ := hc
  rw [setCell_block _ r 5 v5 _ _ _ (setCell_block _ r 4 v4 _ _ _ (setCell_block _ r 3 v3 _ _ _ (setCell_block _ r 2 v2 _ _ _ (setCell_block _ r 1 v1 _ _ _ (setCell_block _ r 0 v0 _ _ _ h)))))]
  rfl

set_option maxRecDepth 100000 in
set_option maxHeartbeats 800000 in
theorem row_any (b : Nat) (n : Int) (w : World) (hB : Book b w) :
    Calls Try.prog 19 #[.pointer (some ⟨b, 0, none⟩), .int .i64 n] w fun e w' => e = .returned (.agg #[.int .i64 (getRow n).n, .int .i64 (getRow n).kind, .string (getRow n).name, .int .i64 (getRow n).least, .int .i64 (getRow n).most, .bool (getRow n).kw]) ∧ KeptBut b w w' ∧ Ready b w' := by
  have lb := hB.lt
  have HL := Lib.hid (lay_any b _ (hB.alloc (.cells #[.int .i64 0, .int .i64 0, .string ⟨#[]⟩, .int .i64 0, .int .i64 0, .bool false] 50)))
  clear hB
  go_enter Try.func19, Try.ntmps19
  go_wp2_with fail
  refine HL.out.mono ?_
  rintro e w1 ⟨rfl, K, m1, m2, h0, h1, h2⟩
  have hlk := look1 m1 n w1 h1
  unfold Row.val Row.cells at hlk
  have y3 : w1.cell? ⟨b, 3, none⟩ = some (.map (some m1)) := cell_of_block h0 3
  have hr := (K.block w.heap.size (by rw [alloc_size]; omega) (by omega)).trans (alloc_block_new w _)
  have hic : IsCells w.heap.size w1 := ⟨_, _, _, hr⟩
  have r0 : w1.cell? ⟨w.heap.size, 0, none⟩ = some (.int .i64 0) := cell_of_block hr 0
  have r1 : w1.cell? ⟨w.heap.size, 1, none⟩ = some (.int .i64 0) := cell_of_block hr 1
  have r2 : w1.cell? ⟨w.heap.size, 2, none⟩ = some (.string ⟨#[]⟩) := cell_of_block hr 2
  have r3 : w1.cell? ⟨w.heap.size, 3, none⟩ = some (.int .i64 0) := cell_of_block hr 3
  have r4 : w1.cell? ⟨w.heap.size, 4, none⟩ = some (.int .i64 0) := cell_of_block hr 4
  have r5 : w1.cell? ⟨w.heap.size, 5, none⟩ = some (.bool false) := cell_of_block hr 5
  have fz : ∀ j, w1.frozen? ⟨w.heap.size, j, none⟩ = false := fun j => by simp [World.frozen?, hr]
  have HK := Lib.hid (six_sets b w.heap.size w w1 (((KeptBut.refl b w).alloc _).trans K) ⟨m1, m2, h0, h1, h2⟩ (Nat.le_refl _) hic (by omega))
  have HR := Lib.hid hr
  clear HL K h0 h1 h2 hr hic
  obtain ⟨r, hrr⟩ : ∃ r, getRow n = r := ⟨_, rfl⟩
  rw [hrr] at hlk
  have Hrr := Lib.hid hrr
  clear hrr
  go_wp2
  have h6 := six_block w.heap.size w1 _ _ _ HR.out (.int .i64 r.n) (.int .i64 r.kind) (.string r.name) (.int .i64 r.least) (.int .i64 r.most) (.bool r.kw) ⟨_, _, _, _, _, _, rfl⟩
  have g0 := cell_of_block h6 0
  have g1 := cell_of_block h6 1
  have g2 := cell_of_block h6 2
  have g3 := cell_of_block h6 3
  have g4 := cell_of_block h6 4
  have g5 := cell_of_block h6 5
  refine bodyPost_ret (v := .agg #[.int .i64 r.n, .int .i64 r.kind, .string r.name, .int .i64 r.least, .int .i64 r.most, .bool r.kw]) ?_ rfl ⟨by rw [Hrr.out], HK.out _ _ _ _ _ _⟩
  generalize (((((w1.setCell ⟨w.heap.size, 0, none⟩ (.int .i64 r.n)).setCell ⟨w.heap.size, 1, none⟩ (.int .i64 r.kind)).setCell ⟨w.heap.size, 2, none⟩ (.string r.name)).setCell ⟨w.heap.size, 3, none⟩ (.int .i64 r.least)).setCell ⟨w.heap.size, 4, none⟩ (.int .i64 r.most)).setCell ⟨w.heap.size, 5, none⟩ (.bool r.kw) = W at *
  simp [results, Try.results19, go_sem, g0, g1, g2, g3, g4, g5]

theorem place_read (W : World) (r : Nat) (k : Int) (s : ByteArray) (h : W.heap[r]? = some (.cells #[.int .i64 k, .string s] 57 (0, 0))) : W.cell? ⟨r, 0, none⟩ = some (.int .i64 k) ∧ W.cell? ⟨r, 1, none⟩ = some (.string s) :=
  ⟨cell_of_block h 0, cell_of_block h 1⟩

theorem Ready.drewN {b n : Nat} {w : World} (h : Ready b w) : Ready b (w.drewN n) := h
theorem KeptBut.drewN {b n : Nat} {w w' : World} (h : KeptBut b w w') : KeptBut b w (w'.drewN n) := ⟨h.os, h.tape, h.output, h.size, h.block⟩

set_option maxRecDepth 100000 in
set_option maxHeartbeats 800000 in
theorem find_any (b : Nat) (kind : Int) (name : ByteArray) (w : World) (hB : Book b w) :
    Calls Try.prog 21 #[.pointer (some ⟨b, 0, none⟩), .agg #[.int .i64 kind, .string name]] w fun e w' => e = .returned (.int .i64 (findRow kind name)) ∧ KeptBut b w w' ∧ Ready b w' := by
  have lb := hB.lt
  have HL := Lib.hid (lay_any b _ (hB.alloc (.cells #[.int .i64 kind, .string name] 57)))
  clear hB
  go_enter Try.func21, Try.ntmps21
  go_wp2_with fail
  refine HL.out.mono ?_
  rintro e w1 ⟨rfl, K, m1, m2, h0, h1, h2⟩
  have hlk := fun n => look2 m2 kind name (w1.drewN n) h2
  have y4 : w1.cell? ⟨b, 4, none⟩ = some (.map (some m2)) := cell_of_block h0 4
  obtain ⟨q0, q1⟩ := place_read w1 w.heap.size kind name ((K.block w.heap.size (by rw [alloc_size]; omega) (by omega)).trans (alloc_block_new w _))
  have HK := Lib.hid (show KeptBut b w w1 ∧ Ready b w1 from ⟨((KeptBut.refl b w).alloc _).trans K, m1, m2, h0, h1, h2⟩)
  clear HL K h0 h1 h2
  go_wp2
  go_quiet (fail)
  go_wp2
  go_ret
  exact ⟨rfl, HK.out.1.drewN, HK.out.2.drewN⟩
end Go.Proofs.Ytiblamfllnhcgaa
