/- A Book's maps are laid once: Do, lay, and what is found in them. -/
import Derived.Test.YtiblamfllnhcgaaH
namespace Go.Proofs.Ytiblamfllnhcgaa
open Go.RowKit

/-- The Book's block b is laid in w'; all else of w stands. -/
structure Laid (b : Nat) (x2 : Value) (w w' : World) (m1 m2 : Nat) : Prop where
  hb : w'.heap[b]? = some (.cells #[.int .u32 1, .int .i32 0, x2, .map (some m1), .map (some m2)] 40 (0, 0))
  h1 : w'.heap[m1]? = some (.map (es1 45) 45)
  h2 : w'.heap[m2]? = some (.map (es2 45) 45)
  l1 : w.heap.size ≤ m1
  l2 : w.heap.size ≤ m2
  kept : KeptBut b w w'

theorem KeptBut.setCell {b : Nat} {w w' : World} (h : KeptBut b w w') (j : Nat) (v : Value) : KeptBut b w (w'.setCell ⟨b, j, none⟩ v) :=
  ⟨h.os, h.tape, h.output, by rw [setCell_size]; exact h.size, fun k hk hkb => by rw [setCell_block_other _ _ _ _ (fun e => hkb e.symm)]; exact h.block k hk hkb⟩
theorem KeptBut.drew {b : Nat} {w w' : World} (h : KeptBut b w w') : KeptBut b w w'.drew := ⟨h.os, h.tape, h.output, h.size, h.block⟩
theorem KeptBut.refl (b : Nat) (w : World) : KeptBut b w w := ⟨rfl, rfl, rfl, Nat.le_refl _, fun _ _ _ => rfl⟩
theorem KeptBut.trans {b : Nat} {u v w : World} (h : KeptBut b u v) (k : KeptBut b v w) : KeptBut b u w :=
  ⟨k.os.trans h.os, k.tape.trans h.tape, k.output.trans h.output, Nat.le_trans h.size k.size, fun j hj hb => (k.block j (Nat.lt_of_lt_of_le hj h.size) hb).trans (h.block j hj hb)⟩

theorem slow_end (c b : Nat) (x2 : Value) (w w1 : World) (m1 m2 : Nat) (lb : b < w.heap.size) (L : Laying c b (.int .u32 0) (.int .i32 1) x2 (w.setCell ⟨b, 1, none⟩ (.int .i32 1)) w1 45 m1 m2) :
    Laid b x2 w ((w1.drew.setCell ⟨b, 0, none⟩ (.int .u32 1)).setCell ⟨b, 1, none⟩ (.int .i32 0)) m1 m2 := by
  have l1 := L.l1
  have l2 := L.l2
  rw [setCell_size] at l1 l2
  have hb1 : w1.drew.heap[b]? = _ := L.hb
  refine ⟨?_, ?_, ?_, l1, l2, ?_⟩
  · rw [setCell_block _ b 1 _ _ _ _ (setCell_block _ b 0 _ _ _ _ hb1)]; rfl
  · rw [setCell_block_other _ _ _ _ (by show b ≠ m1; omega), setCell_block_other _ _ _ _ (by show b ≠ m1; omega)]; exact L.h1
  · rw [setCell_block_other _ _ _ _ (by show b ≠ m2; omega), setCell_block_other _ _ _ _ (by show b ≠ m2; omega)]; exact L.h2
  · exact ((((KeptBut.refl b w).setCell 1 _).trans L.kept).drew.setCell 0 _).setCell 1 _

set_option maxRecDepth 100000 in
set_option maxHeartbeats 1600000 in
theorem slow_first (b c : Nat) (x2 v3 v4 : Value) (w : World) (hcb : ¬ c = b)
    (hbb : w.heap[b]? = some (.cells #[.int .u32 0, .int .i32 0, x2, v3, v4] 40 (0, 0))) (hcc : w.heap[c]? = some (.cells #[.pointer (some ⟨b, 0, none⟩)] 23 (0, 0))) :
    Calls Try.prog 32 #[.pointer (some ⟨b, 0, none⟩), .func (.func 28) #[] #[.pointer (some ⟨c, 0, none⟩)]] w fun e w' => e = .returned (.tuple #[]) ∧ ∃ m1 m2, Laid b x2 w w' m1 m2 := by
  have lb := lt_of_block hbb
  have h1 : w.cell? ⟨b, 1, none⟩ = some (.int .i32 0) := cell_of_block hbb 1
  have f1 : w.frozen? ⟨b, 1, none⟩ = false := by simp [World.frozen?, hbb]
  have hb1 : (w.setCell ⟨b, 1, none⟩ (.int .i32 1)).heap[b]? = some (.cells #[.int .u32 0, .int .i32 1, x2, v3, v4] 40 (0, 0)) := by rw [setCell_block _ b 1 _ _ _ _ hbb]; rfl
  have hc1 : (w.setCell ⟨b, 1, none⟩ (.int .i32 1)).heap[c]? = some (.cells #[.pointer (some ⟨b, 0, none⟩)] 23 (0, 0)) := by rw [setCell_block_other _ _ _ _ (fun h => hcb h.symm)]; exact hcc
  have hl := run_call_load (P := Try.prog) Try.func33 (by kernel_rfl) (by kernel_rfl) (by kernel_rfl) .u32 (by kernel_rfl) (w := w.setCell ⟨b, 1, none⟩ (.int .i32 1)) (a := ⟨b, 0, none⟩) (x := 0) (cell_of_block hb1 0)
  have hnot : ∀ (x : Bool) (w : World), (Op.unary .not (.bool x)).run Try.prog w = .ok (.bool (!x)) w := fun _ _ => rfl
  have HL := Lib.hid (lay1 c b (.int .u32 0) (.int .i32 1) x2 v3 v4 (w.setCell ⟨b, 1, none⟩ (.int .i32 1)) hcb (fun h => hcb h.symm) hb1 hc1)
  clear hb1 hc1 hbb hcc
  go_enter_defers Try.func32, Try.ntmps32
  go_wp2_with (first | (go_at_call 34; refine (lock_free ⟨b, 1, none⟩ _ h1 f1).mono ?_; rintro e w' ⟨rfl, rfl⟩) | (go_at_call 31; go_in) | fail)
  refine HL.out.mono ?_
  rintro e w1 ⟨rfl, m1, m2, L⟩
  have hl1 := lt_of_block L.hb
  have H := Lib.hid L
  clear L HL hl h1 f1
  go_wp2_with fail
  refine leaves_cons (f := 36) (args := #[.pointer (some ⟨b, 0, none⟩), .bool true]) (by simp) (by simp [go_sem]) ?_
  refine (store_deferred ⟨b, 0, none⟩ (.int .u32 0) .returning _ (cell_of_block H.out.hb 0) (by simp [World.frozen?, H.out.hb])).mono ?_
  rintro e u' w'' ⟨rfl, rfl, rfl⟩
  have hb2 : (w1.drew.setCell ⟨b, 0, none⟩ (.int .u32 1)).heap[b]? = some (.cells #[.int .u32 1, .int .i32 1, x2, .map (some m1), .map (some m2)] 40 (0, 0)) := by
    rw [setCell_block _ b 0 _ _ _ _ (show w1.drew.heap[b]? = _ from H.out.hb)]; rfl
  refine leaves_cons (f := 35) (args := #[.pointer (some ⟨b, 1, none⟩)]) (by simp [settle]) (by simp [go_sem]) ?_
  refine (unlock_deferred ⟨b, 1, none⟩ _ _ (cell_of_block hb2 1) (by simp [World.frozen?, hb2])).mono ?_
  rintro e u' w'' ⟨rfl, rfl, rfl⟩
  have hend := slow_end c b x2 w w1 m1 m2 lb H.out
  simp [Leaves, settle, results, Try.results32]
  exact ⟨m1, m2, hend⟩

set_option maxRecDepth 100000 in
set_option maxHeartbeats 1600000 in
theorem do_first (b c : Nat) (x2 v3 v4 : Value) (w : World) (hcb : ¬ c = b)
    (hbb : w.heap[b]? = some (.cells #[.int .u32 0, .int .i32 0, x2, v3, v4] 40 (0, 0))) (hcc : w.heap[c]? = some (.cells #[.pointer (some ⟨b, 0, none⟩)] 23 (0, 0))) :
    Calls Try.prog 27 #[.pointer (some ⟨b, 0, none⟩), .func (.func 28) #[] #[.pointer (some ⟨c, 0, none⟩)]] w fun e w' => e = .returned (.tuple #[]) ∧ ∃ m1 m2, Laid b x2 w w' m1 m2 := by
  have HS := Lib.hid (slow_first b c x2 v3 v4 w hcb hbb hcc)
  have h0 : w.cell? ⟨b, 0, none⟩ = some (.int .u32 0) := cell_of_block hbb 0
  have hl := run_call_load (P := Try.prog) Try.func33 (by kernel_rfl) (by kernel_rfl) (by kernel_rfl) .u32 (by kernel_rfl) h0
  have hnot : ∀ (x : Bool) (w : World), (Op.unary .not (.bool x)).run Try.prog w = .ok (.bool (!x)) w := fun _ _ => rfl
  clear hbb hcc
  go_enter Try.func27, Try.ntmps27
  go_wp2_with (first | (go_at_call 32; refine HS.out.mono ?_; rintro e w' ⟨rfl, m1, m2, L⟩; have H := Lib.hid L; clear L) | (go_at_call 31; go_in))
  go_end0
  exact ⟨rfl, m1, m2, H.out⟩

/-- Done already. -/
theorem do_done (a : Addr) (fv : Value) (w : World) (h0 : w.cell? a = some (.int .u32 1)) :
    Calls Try.prog 27 #[.pointer (some a), fv] w fun e w' => e = .returned (.tuple #[]) ∧ w = w' := by
  have hl := run_call_load (P := Try.prog) Try.func33 (by kernel_rfl) (by kernel_rfl) (by kernel_rfl) .u32 (by kernel_rfl) h0
  have hnot : ∀ (x : Bool) (w : World), (Op.unary .not (.bool x)).run Try.prog w = .ok (.bool (!x)) w := fun _ _ => rfl
  go_enter Try.func27, Try.ntmps27
  go_wp2
  go_end0
  exact ⟨rfl, rfl⟩

/-- A Book at block b: new, or laid. -/
def Book (b : Nat) (w : World) : Prop :=
  w.heap[b]? = some (.cells #[.int .u32 0, .int .i32 0, .int .u32 0, .map none, .map none] 40 (0, 0)) ∨
  ∃ m1 m2, w.heap[b]? = some (.cells #[.int .u32 1, .int .i32 0, .int .u32 0, .map (some m1), .map (some m2)] 40 (0, 0)) ∧ w.heap[m1]? = some (.map (es1 45) 45) ∧ w.heap[m2]? = some (.map (es2 45) 45)

/-- The Book's maps are there, and all but the Book stands. -/
def Open (b : Nat) (w w' : World) : Prop :=
  KeptBut b w w' ∧ ∃ m1 m2, w'.heap[b]? = some (.cells #[.int .u32 1, .int .i32 0, .int .u32 0, .map (some m1), .map (some m2)] 40 (0, 0)) ∧ w'.heap[m1]? = some (.map (es1 45) 45) ∧ w'.heap[m2]? = some (.map (es2 45) 45)

theorem KeptBut.alloc {b : Nat} {w w' : World} (h : KeptBut b w w') (o : Obj) : KeptBut b w (w'.alloc o) :=
  ⟨h.os, h.tape, h.output, by have := h.size; rw [alloc_size]; omega, fun k hk hkb => by rw [alloc_block_lt _ _ _ (Nat.lt_of_lt_of_le hk h.size)]; exact h.block k hk hkb⟩

set_option maxRecDepth 100000 in
set_option maxHeartbeats 1600000 in
theorem lay_any (b : Nat) (w : World) (hB : Book b w) :
    Calls Try.prog 25 #[.pointer (some ⟨b, 0, none⟩)] w fun e w' => e = .returned (.tuple #[]) ∧ Open b w w' := by
  have hmf : ∀ (fn : Fn) (first cap : Array Value) (w : World), (Instr.makeFunc fn first cap).run Try.prog w = .ok (.func fn first cap) w := fun _ _ _ _ => rfl
  have hnew := alloc_block_new w (.cells #[.pointer (some ⟨b, 0, none⟩)] 23)
  rcases hB with hb | ⟨m1, m2, hb, h1, h2⟩
  · have lb := lt_of_block hb
    have hb' := (alloc_block_lt w (.cells #[.pointer (some ⟨b, 0, none⟩)] 23) b lb).trans hb
    have HD := Lib.hid (do_first b w.heap.size (.int .u32 0) (.map none) (.map none) _ (by omega) hb' hnew)
    clear hb hb' hnew
    go_enter Try.func25, Try.ntmps25
    go_wp2_with (go_at_call 27; refine HD.out.mono ?_; rintro e w' ⟨rfl, m1, m2, L⟩; have H := Lib.hid L; clear L)
    go_end0
    exact ⟨rfl, ((KeptBut.refl b w).alloc _).trans H.out.kept, m1, m2, H.out.hb, H.out.h1, H.out.h2⟩
  · have lb := lt_of_block hb
    have hb' := (alloc_block_lt w (.cells #[.pointer (some ⟨b, 0, none⟩)] 23) b lb).trans hb
    have h1' := (alloc_block_lt w (.cells #[.pointer (some ⟨b, 0, none⟩)] 23) m1 (lt_of_block h1)).trans h1
    have h2' := (alloc_block_lt w (.cells #[.pointer (some ⟨b, 0, none⟩)] 23) m2 (lt_of_block h2)).trans h2
    have HO := Lib.hid (show Open b w (w.alloc (.cells #[.pointer (some ⟨b, 0, none⟩)] 23)) from ⟨(KeptBut.refl b w).alloc _, m1, m2, hb', h1', h2'⟩)
    have h0 := cell_of_block hb' 0
    clear hb hb' hnew h1 h2 h1' h2'
    go_enter Try.func25, Try.ntmps25
    go_wp2_with (go_at_call 27; refine (do_done ⟨b, 0, none⟩ _ _ h0).mono ?_; rintro e w' ⟨rfl, rfl⟩)
    go_end0
    exact ⟨rfl, HO.out⟩
end Go.Proofs.Ytiblamfllnhcgaa
