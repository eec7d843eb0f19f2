/- Facts on the worlds that the laying of a Book's two maps goes through. -/
import Derived.Test.YtiblamfllnhcgaaM
import Derived.Test.YtiblamfllnhcgaaB
import Derived.BigRegion
import Derived.Deep.DeepCutAuto
import Derived.Deep.RegionHeld3
namespace Go.Proofs.Ytiblamfllnhcgaa
open Go.RowKit

theorem setCell_block (w : World) (b j : Nat) (v : Value) (cs : Array Value) (e : TypeId) (fz : Nat × Nat) (h : w.heap[b]? = some (.cells cs e fz)) :
    (w.setCell ⟨b, j, none⟩ v).heap[b]? = some (.cells (cs.setIfInBounds j v) e fz) := by
  simp [World.setCell, Array.getElem?_modify, h]
theorem setCell_block_other (w : World) (a : Addr) (k : Nat) (v : Value) (h : a.block ≠ k) : (w.setCell a v).heap[k]? = w.heap[k]? := by
  simp [World.setCell, Array.getElem?_modify, h]
theorem setCell_size (w : World) (a : Addr) (v : Value) : (w.setCell a v).heap.size = w.heap.size := by simp [World.setCell]
theorem alloc_block_lt (w : World) (o : Obj) (k : Nat) (h : k < w.heap.size) : (w.alloc o).heap[k]? = w.heap[k]? := by
  show (w.heap.push o)[k]? = _
  rw [Array.getElem?_push, if_neg (by omega)]
theorem alloc_block_new (w : World) (o : Obj) : (w.alloc o).heap[w.heap.size]? = some o := by
  show (w.heap.push o)[w.heap.size]? = _
  rw [Array.getElem?_push, if_pos rfl]
theorem alloc_size (w : World) (o : Obj) : (w.alloc o).heap.size = w.heap.size + 1 := by
  show (w.heap.push o).size = _
  rw [Array.size_push]

/-- All of w but block b stands as it was in w'. -/
structure KeptBut (b : Nat) (w w' : World) : Prop where
  os : w'.os = w.os
  tape : w'.tape = w.tape
  output : w'.output = w.output
  size : w.heap.size ≤ w'.heap.size
  block : ∀ k, k < w.heap.size → k ≠ b → w'.heap[k]? = w.heap[k]?

/-- Behind k rounds: the Book's block b, the captured variable's block c, the two maps. -/
structure Laying (c b : Nat) (x0 x1 x2 : Value) (w0 w : World) (k m1 m2 : Nat) : Prop where
  hb : w.heap[b]? = some (.cells #[x0, x1, x2, .map (some m1), .map (some m2)] 40 (0, 0))
  hc : w.heap[c]? = some (.cells #[.pointer (some ⟨b, 0, none⟩)] 23 (0, 0))
  h1 : w.heap[m1]? = some (.map (es1 k) k)
  h2 : w.heap[m2]? = some (.map (es2 k) k)
  ne : m1 ≠ m2
  l1 : w0.heap.size ≤ m1
  l2 : w0.heap.size ≤ m2
  kept : KeptBut b w0 w

theorem laid0 (c b : Nat) (x0 x1 x2 v3 v4 : Value) (w : World) (hcb : c ≠ b)
    (hb : w.heap[b]? = some (.cells #[x0, x1, x2, v3, v4] 40 (0, 0))) (hc : w.heap[c]? = some (.cells #[.pointer (some ⟨b, 0, none⟩)] 23 (0, 0)))
    (m1 m2 : Nat) (hm : (m1 = w.heap.size ∧ m2 = w.heap.size + 1) ∨ (m1 = w.heap.size + 1 ∧ m2 = w.heap.size)) :
    Laying c b x0 x1 x2 w ((((w.setCell ⟨b, 3, none⟩ (.map (some m1))).setCell ⟨b, 4, none⟩ (.map (some m2))).alloc (.map #[] 0)).alloc (.map #[] 0)).drew 0 m1 m2 := by
  have lb := lt_of_block hb
  have lc := lt_of_block hc
  have hs : ((w.setCell ⟨b, 3, none⟩ (.map (some m1))).setCell ⟨b, 4, none⟩ (.map (some m2))).heap.size = w.heap.size := by rw [setCell_size, setCell_size]
  have old : ∀ k, k < w.heap.size → ((((w.setCell ⟨b, 3, none⟩ (.map (some m1))).setCell ⟨b, 4, none⟩ (.map (some m2))).alloc (.map #[] 0)).alloc (.map #[] 0)).drew.heap[k]? = ((w.setCell ⟨b, 3, none⟩ (.map (some m1))).setCell ⟨b, 4, none⟩ (.map (some m2))).heap[k]? := fun k hk => by
    show ((_ : World).alloc _).heap[k]? = _
    rw [alloc_block_lt _ _ _ (by rw [alloc_size, hs]; omega), alloc_block_lt _ _ _ (by rw [hs]; exact hk)]
  have new0 : ((((w.setCell ⟨b, 3, none⟩ (.map (some m1))).setCell ⟨b, 4, none⟩ (.map (some m2))).alloc (.map #[] 0)).alloc (.map #[] 0)).drew.heap[w.heap.size]? = some (.map #[] 0) := by
    show ((_ : World).alloc _).heap[w.heap.size]? = _
    rw [alloc_block_lt _ _ _ (by rw [alloc_size, hs]; omega)]
    rw [← hs]; exact alloc_block_new _ _
  have new1 : ((((w.setCell ⟨b, 3, none⟩ (.map (some m1))).setCell ⟨b, 4, none⟩ (.map (some m2))).alloc (.map #[] 0)).alloc (.map #[] 0)).drew.heap[w.heap.size + 1]? = some (.map #[] 0) := by
    show ((_ : World).alloc _).heap[w.heap.size + 1]? = _
    have := alloc_block_new (((w.setCell ⟨b, 3, none⟩ (.map (some m1))).setCell ⟨b, 4, none⟩ (.map (some m2))).alloc (.map #[] 0)) (.map #[] 0)
    rw [alloc_size, hs] at this; exact this
  refine ⟨?_, ?_, ?_, ?_, by omega, by omega, by omega, rfl, rfl, rfl, ?_, ?_⟩
  · rw [old b lb]
    have := setCell_block _ b 4 (.map (some m2)) _ _ _ (setCell_block w b 3 (.map (some m1)) _ _ _ hb)
    rw [this]; rfl
  · rw [old c lc, setCell_block_other _ _ _ _ (by exact fun h => hcb h.symm), setCell_block_other _ _ _ _ (by exact fun h => hcb h.symm), hc]
  · rcases hm with ⟨rfl, _⟩ | ⟨rfl, _⟩ <;> assumption
  · rcases hm with ⟨_, rfl⟩ | ⟨_, rfl⟩ <;> assumption
  · show _ ≤ ((_ : World).alloc _).heap.size
    rw [alloc_size, alloc_size, hs]; omega
  · intro k hk hkb
    rw [old k hk, setCell_block_other _ _ _ _ (by exact fun h => hkb h.symm), setCell_block_other _ _ _ _ (by exact fun h => hkb h.symm)]

theorem info50 : (Try.prog.info? 50).map (fun i => (i.zero, i.size, i.bytes)) = some (some Row.zero.val, 6, 56) := by kernel_rfl

theorem own_fns (w : World) : ((w.alloc (.cells (cellsOf fns) 50)).alloc (.cells (cellsOf mths) 50)).ownsRow w.heap.size 50 6 (.slice (some ⟨w.heap.size, 0, none⟩) 22 22) 22 (cellsOf fns).toList := by
  refine ⟨rfl, .inr ⟨w.heap.size, 22, cellsOf fns, rfl, Nat.le_refl _, ?_, Nat.le_refl _, by unfold maxLen; decide, rfl, rfl⟩⟩
  rw [alloc_block_lt _ _ _ (by rw [alloc_size]; omega), alloc_block_new]

theorem cell_of_block {w : World} {b : Nat} {c : Array Value} {e : TypeId} {fz : Nat × Nat} (h : w.heap[b]? = some (.cells c e fz)) (j : Nat) : w.cell? ⟨b, j, none⟩ = c[j]? := by
  simp [World.cell?, h]

theorem new_mths (w : World) : ∀ j u, (cellsOf mths).toList[j]? = some u → ((w.alloc (.cells (cellsOf fns) 50)).alloc (.cells (cellsOf mths) 50)).cell? ((⟨w.heap.size + 1, 0, none⟩ : Addr).add j) = some u := by
  intro j u h
  have hb := alloc_block_new (w.alloc (.cells (cellsOf fns) 50)) (.cells (cellsOf mths) 50)
  rw [alloc_size] at hb
  rw [show (⟨w.heap.size + 1, 0, none⟩ : Addr).add j = ⟨w.heap.size + 1, 0 + j, none⟩ from by simp [Addr.add]; exact fun h => h.symm, cell_of_block hb, Nat.zero_add, ← Array.getElem?_toList]
  exact h

theorem one_mths : ∀ u ∈ (cellsOf mths).toList, u.oneCell' = true := by decide +kernel


/-- The table of all rows lies at the head of block g. -/
def Tab (g : Nat) (w : World) : Prop := ∃ cur, w.heap[g]? = some (.cells cur 50 (0, 0)) ∧ ∀ j, j < 270 → cur[j]? = (cellsOf rows)[j]?

theorem Tab.cells {g : Nat} {w : World} (T : Tab g w) (k : Nat) (hk : k < 45) :
    w.cell? ⟨g, k * 6, none⟩ = some (.int .i64 (rowAt k).n) ∧ w.cell? ⟨g, k * 6 + 1, none⟩ = some (.int .i64 (rowAt k).kind) ∧ w.cell? ⟨g, k * 6 + 2, none⟩ = some (.string (rowAt k).name) ∧
    w.cell? ⟨g, k * 6 + 3, none⟩ = some (.int .i64 (rowAt k).least) ∧ w.cell? ⟨g, k * 6 + 4, none⟩ = some (.int .i64 (rowAt k).most) ∧ w.cell? ⟨g, k * 6 + 5, none⟩ = some (.bool (rowAt k).kw) := by
  obtain ⟨cur, hg, hc⟩ := T
  obtain ⟨h0, h1, h2, h3, h4, h5⟩ := cellsOf_at rows k (by rw [rows_length]; exact hk)
  have e : ∀ j, j < 270 → w.cell? ⟨g, j, none⟩ = (cellsOf rows)[j]? := fun j hj => by
    rw [← hc j hj]; exact cell_of_block hg j
  exact ⟨(e _ (by omega)).trans h0, (e _ (by omega)).trans h1, (e _ (by omega)).trans h2, (e _ (by omega)).trans h3, (e _ (by omega)).trans h4, (e _ (by omega)).trans h5⟩

theorem cells_all : (cellsOf fns).toList ++ (cellsOf mths).toList = (cellsOf rows).toList := by
  simp only [cellsOf, List.toList_toArray, rows, List.flatMap_append]

/-- Behind the append. -/
theorem behind_append (c b : Nat) (x0 x1 x2 : Value) (w wc w1 : World) (m1 m2 : Nat) (L : Laying c b x0 x1 x2 w wc 0 m1 m2) (v' : Value)
    (hown : w1.ownsRow wc.heap.size 50 6 v' 45 ((cellsOf fns).toList ++ (cellsOf mths).toList))
    (hgrow : ((wc.alloc (.cells (cellsOf fns) 50)).alloc (.cells (cellsOf mths) 50)).grownBy w1 (Value.slice (some ⟨wc.heap.size, 0, none⟩) 22 22).ownBlock) :
    ∃ g cap, v' = .slice (some ⟨g, 0, none⟩) 45 cap ∧ wc.heap.size ≤ g ∧ Tab g w1 ∧ Laying c b x0 x1 x2 w w1 0 m1 m2 := by
  have old : ∀ k, k < wc.heap.size → w1.heap[k]? = wc.heap[k]? := fun k hk => by
    rw [hgrow.block k (by rw [alloc_size, alloc_size]; omega) (by simp [Value.ownBlock]; omega), alloc_block_lt _ _ _ (by rw [alloc_size]; omega), alloc_block_lt _ _ _ hk]
  have hsz := hgrow.size
  rw [alloc_size, alloc_size] at hsz
  have hws := L.kept.size
  have l1 := lt_of_block L.h1
  have l2 := lt_of_block L.h2
  have lb := lt_of_block L.hb
  have lc := lt_of_block L.hc
  obtain ⟨hl, h | ⟨g, cap, cur, hv, hg, hh, hn, hcap, hcs, ht⟩⟩ := hown
  · exact absurd h.2 (by omega)
  · refine ⟨g, cap, hv, hg, ⟨cur, hh, fun j hj => ?_⟩, ⟨by rw [old _ lb]; exact L.hb, by rw [old _ lc]; exact L.hc, by rw [old _ l1]; exact L.h1, by rw [old _ l2]; exact L.h2, L.ne, L.l1, L.l2,
      ⟨hgrow.os.trans L.kept.os, hgrow.tape.trans L.kept.tape, hgrow.output.trans L.kept.output, by omega, fun k hk hkb => by rw [old k (by omega)]; exact L.kept.block k hk hkb⟩⟩⟩
    rw [cells_all] at ht
    rw [← Array.getElem?_toList, ← Array.getElem?_toList, ← ht, List.getElem?_take, if_pos (by omega)]

theorem putObj_cell (w : World) (m : Nat) (o : Obj) (a : Addr) (h : ¬ m = a.block) : (putObj w m o).cell? a = w.cell? a := by
  simp [World.cell?, putObj_other w m a.block o h]
theorem putObj_frozen (w : World) (m : Nat) (o : Obj) (a : Addr) (h : ¬ m = a.block) : (putObj w m o).frozen? a = w.frozen? a := by
  simp [World.frozen?, putObj_other w m a.block o h]

def rowBox (k : Nat) : Obj := .cells #[.int .i64 (rowAt k).n, .int .i64 (rowAt k).kind, .string (rowAt k).name, .int .i64 (rowAt k).least, .int .i64 (rowAt k).most, .bool (rowAt k).kw] 50

/-- What the round's statement reads, in the world behind its new variable. -/
structure Round (c b x : Nat) (k m1 m2 : Nat) (W : World) : Prop where
  y0 : W.cell? ⟨c, 0, none⟩ = some (.pointer (some ⟨b, 0, none⟩))
  y3 : W.cell? ⟨b, 3, none⟩ = some (.map (some m1))
  y4 : W.cell? ⟨b, 4, none⟩ = some (.map (some m2))
  r0 : W.cell? ⟨x, 0, none⟩ = some (.int .i64 (rowAt k).n)
  r1 : W.cell? ⟨x, 1, none⟩ = some (.int .i64 (rowAt k).kind)
  r2 : W.cell? ⟨x, 2, none⟩ = some (.string (rowAt k).name)
  r3 : W.cell? ⟨x, 3, none⟩ = some (.int .i64 (rowAt k).least)
  r4 : W.cell? ⟨x, 4, none⟩ = some (.int .i64 (rowAt k).most)
  r5 : W.cell? ⟨x, 5, none⟩ = some (.bool (rowAt k).kw)

theorem Round.drew {c b x k m1 m2 : Nat} {W : World} (h : Round c b x k m1 m2 W) : Round c b x k m1 m2 W.drew :=
  ⟨h.y0, h.y3, h.y4, h.r0, h.r1, h.r2, h.r3, h.r4, h.r5⟩

theorem Round.put {c b x k m1 m2 m : Nat} {W : World} {o : Obj} (h : Round c b x k m1 m2 W) (hc : ¬ m = c) (hb : ¬ m = b) (hx : ¬ m = x) : Round c b x k m1 m2 (putObj W m o) := by
  constructor <;> rw [putObj_cell _ _ _ _ (by assumption)]
  all_goals first | exact h.y0 | exact h.y3 | exact h.y4 | exact h.r0 | exact h.r1 | exact h.r2 | exact h.r3 | exact h.r4 | exact h.r5

theorem Round.conj {c b x k m1 m2 : Nat} {W : World} (h : Round c b x k m1 m2 W) :
    W.cell? ⟨c, 0, none⟩ = some (.pointer (some ⟨b, 0, none⟩)) ∧ W.cell? ⟨b, 3, none⟩ = some (.map (some m1)) ∧ W.cell? ⟨b, 4, none⟩ = some (.map (some m2)) ∧ W.cell? ⟨x, 0, none⟩ = some (.int .i64 (rowAt k).n) ∧ W.cell? ⟨x, 1, none⟩ = some (.int .i64 (rowAt k).kind) ∧ W.cell? ⟨x, 2, none⟩ = some (.string (rowAt k).name) ∧ W.cell? ⟨x, 3, none⟩ = some (.int .i64 (rowAt k).least) ∧ W.cell? ⟨x, 4, none⟩ = some (.int .i64 (rowAt k).most) ∧ W.cell? ⟨x, 5, none⟩ = some (.bool (rowAt k).kw) :=
  ⟨h.y0, h.y3, h.y4, h.r0, h.r1, h.r2, h.r3, h.r4, h.r5⟩

theorem conj_put {c b x k m1 m2 m : Nat} {W : World} {o : Obj}
    (h : W.cell? ⟨c, 0, none⟩ = some (.pointer (some ⟨b, 0, none⟩)) ∧ W.cell? ⟨b, 3, none⟩ = some (.map (some m1)) ∧ W.cell? ⟨b, 4, none⟩ = some (.map (some m2)) ∧ W.cell? ⟨x, 0, none⟩ = some (.int .i64 (rowAt k).n) ∧ W.cell? ⟨x, 1, none⟩ = some (.int .i64 (rowAt k).kind) ∧ W.cell? ⟨x, 2, none⟩ = some (.string (rowAt k).name) ∧ W.cell? ⟨x, 3, none⟩ = some (.int .i64 (rowAt k).least) ∧ W.cell? ⟨x, 4, none⟩ = some (.int .i64 (rowAt k).most) ∧ W.cell? ⟨x, 5, none⟩ = some (.bool (rowAt k).kw))
    (hc : ¬ m = c) (hb : ¬ m = b) (hx : ¬ m = x) : (fun W : World => W.cell? ⟨c, 0, none⟩ = some (.pointer (some ⟨b, 0, none⟩)) ∧ W.cell? ⟨b, 3, none⟩ = some (.map (some m1)) ∧ W.cell? ⟨b, 4, none⟩ = some (.map (some m2)) ∧ W.cell? ⟨x, 0, none⟩ = some (.int .i64 (rowAt k).n) ∧ W.cell? ⟨x, 1, none⟩ = some (.int .i64 (rowAt k).kind) ∧ W.cell? ⟨x, 2, none⟩ = some (.string (rowAt k).name) ∧ W.cell? ⟨x, 3, none⟩ = some (.int .i64 (rowAt k).least) ∧ W.cell? ⟨x, 4, none⟩ = some (.int .i64 (rowAt k).most) ∧ W.cell? ⟨x, 5, none⟩ = some (.bool (rowAt k).kw)) (putObj W m o) :=
  (Round.put ⟨h.1, h.2.1, h.2.2.1, h.2.2.2.1, h.2.2.2.2.1, h.2.2.2.2.2.1, h.2.2.2.2.2.2.1, h.2.2.2.2.2.2.2.1, h.2.2.2.2.2.2.2.2⟩ hc hb hx).conj

theorem round_start (c b : Nat) (x0 x1 x2 : Value) (w wr : World) (k m1 m2 : Nat) (L : Laying c b x0 x1 x2 w wr k m1 m2) : Round c b wr.heap.size k m1 m2 (wr.alloc (rowBox k)) := by
  have hx := alloc_block_new wr (rowBox k)
  have lb := lt_of_block L.hb
  have lc := lt_of_block L.hc
  have hb : (wr.alloc (rowBox k)).heap[b]? = _ := (alloc_block_lt _ _ _ lb).trans L.hb
  have hc : (wr.alloc (rowBox k)).heap[c]? = _ := (alloc_block_lt _ _ _ lc).trans L.hc
  unfold rowBox at *
  constructor
  · exact cell_of_block hc 0
  · exact cell_of_block hb 3
  · exact cell_of_block hb 4
  · exact cell_of_block hx 0
  · exact cell_of_block hx 1
  · exact cell_of_block hx 2
  · exact cell_of_block hx 3
  · exact cell_of_block hx 4
  · exact cell_of_block hx 5

/-- The two maps behind the round's statement. -/
def Steps4 (k m1 m2 : Nat) (W W1 W2 W3 W4 : World) : Prop :=
  W1 = putObj W m1 (.map ((es1 k).push ⟨.int .i64 (rowAt k).n, Row.zero.val, k⟩) (k + 1)) ∧ W2 = putObj W1 m1 (.map ((es1 k).push ⟨.int .i64 (rowAt k).n, (rowAt k).val, k⟩) (k + 1)) ∧
  W3 = putObj W2 m2 (.map ((es2 k).push ⟨(rowAt k).key, .int .i64 0, k⟩) (k + 1)) ∧ W4 = putObj W3 m2 (.map ((es2 k).push ⟨(rowAt k).key, .int .i64 (rowAt k).n, k⟩) (k + 1))

theorem four_steps (c b x k m1 m2 : Nat) (hk : k < 45) (hne : ¬ m1 = m2) (h1c : ¬ m1 = c) (h1b : ¬ m1 = b) (h1x : ¬ m1 = x) (h2c : ¬ m2 = c) (h2b : ¬ m2 = b) (h2x : ¬ m2 = x)
    (W : World) (n1 : W.heap[m1]? = some (.map (es1 k) k)) (n2 : W.heap[m2]? = some (.map (es2 k) k))
    (R : W.cell? ⟨c, 0, none⟩ = some (.pointer (some ⟨b, 0, none⟩)) ∧ W.cell? ⟨b, 3, none⟩ = some (.map (some m1)) ∧ W.cell? ⟨b, 4, none⟩ = some (.map (some m2)) ∧ W.cell? ⟨x, 0, none⟩ = some (.int .i64 (rowAt k).n) ∧ W.cell? ⟨x, 1, none⟩ = some (.int .i64 (rowAt k).kind) ∧ W.cell? ⟨x, 2, none⟩ = some (.string (rowAt k).name) ∧ W.cell? ⟨x, 3, none⟩ = some (.int .i64 (rowAt k).least) ∧ W.cell? ⟨x, 4, none⟩ = some (.int .i64 (rowAt k).most) ∧ W.cell? ⟨x, 5, none⟩ = some (.bool (rowAt k).kw)) :
    ∃ W1 W2 W3 W4, Steps4 k m1 m2 W W1 W2 W3 W4 ∧
      (Instr.mapEntry 37 (.map (some m1)) (.int .i64 (rowAt k).n)).run Try.prog W = .ok (.tuple #[Row.zero.val, .int .i64 k]) W1 ∧
      (Instr.entryStore 37 (.map (some m1)) (.int .i64 k) (rowAt k).val).run Try.prog W1 = .ok () W2 ∧
      (Instr.mapEntry 38 (.map (some m2)) (rowAt k).key).run Try.prog W2 = .ok (.tuple #[.int .i64 0, .int .i64 k]) W3 ∧
      (Instr.entryStore 38 (.map (some m2)) (.int .i64 k) (.int .i64 (rowAt k).n)).run Try.prog W3 = .ok () W4 ∧
      (W1.cell? ⟨c, 0, none⟩ = some (.pointer (some ⟨b, 0, none⟩)) ∧ W1.cell? ⟨b, 3, none⟩ = some (.map (some m1)) ∧ W1.cell? ⟨b, 4, none⟩ = some (.map (some m2)) ∧ W1.cell? ⟨x, 0, none⟩ = some (.int .i64 (rowAt k).n) ∧ W1.cell? ⟨x, 1, none⟩ = some (.int .i64 (rowAt k).kind) ∧ W1.cell? ⟨x, 2, none⟩ = some (.string (rowAt k).name) ∧ W1.cell? ⟨x, 3, none⟩ = some (.int .i64 (rowAt k).least) ∧ W1.cell? ⟨x, 4, none⟩ = some (.int .i64 (rowAt k).most) ∧ W1.cell? ⟨x, 5, none⟩ = some (.bool (rowAt k).kw)) ∧
      (W2.cell? ⟨c, 0, none⟩ = some (.pointer (some ⟨b, 0, none⟩)) ∧ W2.cell? ⟨b, 3, none⟩ = some (.map (some m1)) ∧ W2.cell? ⟨b, 4, none⟩ = some (.map (some m2)) ∧ W2.cell? ⟨x, 0, none⟩ = some (.int .i64 (rowAt k).n) ∧ W2.cell? ⟨x, 1, none⟩ = some (.int .i64 (rowAt k).kind) ∧ W2.cell? ⟨x, 2, none⟩ = some (.string (rowAt k).name) ∧ W2.cell? ⟨x, 3, none⟩ = some (.int .i64 (rowAt k).least) ∧ W2.cell? ⟨x, 4, none⟩ = some (.int .i64 (rowAt k).most) ∧ W2.cell? ⟨x, 5, none⟩ = some (.bool (rowAt k).kw)) ∧
      (W3.cell? ⟨c, 0, none⟩ = some (.pointer (some ⟨b, 0, none⟩)) ∧ W3.cell? ⟨b, 3, none⟩ = some (.map (some m1)) ∧ W3.cell? ⟨b, 4, none⟩ = some (.map (some m2)) ∧ W3.cell? ⟨x, 0, none⟩ = some (.int .i64 (rowAt k).n) ∧ W3.cell? ⟨x, 1, none⟩ = some (.int .i64 (rowAt k).kind) ∧ W3.cell? ⟨x, 2, none⟩ = some (.string (rowAt k).name) ∧ W3.cell? ⟨x, 3, none⟩ = some (.int .i64 (rowAt k).least) ∧ W3.cell? ⟨x, 4, none⟩ = some (.int .i64 (rowAt k).most) ∧ W3.cell? ⟨x, 5, none⟩ = some (.bool (rowAt k).kw)) ∧
      (W4.cell? ⟨c, 0, none⟩ = some (.pointer (some ⟨b, 0, none⟩)) ∧ W4.cell? ⟨b, 3, none⟩ = some (.map (some m1)) ∧ W4.cell? ⟨b, 4, none⟩ = some (.map (some m2)) ∧ W4.cell? ⟨x, 0, none⟩ = some (.int .i64 (rowAt k).n) ∧ W4.cell? ⟨x, 1, none⟩ = some (.int .i64 (rowAt k).kind) ∧ W4.cell? ⟨x, 2, none⟩ = some (.string (rowAt k).name) ∧ W4.cell? ⟨x, 3, none⟩ = some (.int .i64 (rowAt k).least) ∧ W4.cell? ⟨x, 4, none⟩ = some (.int .i64 (rowAt k).most) ∧ W4.cell? ⟨x, 5, none⟩ = some (.bool (rowAt k).kw)) := by
  have k1 := putObj_same W m1 (.map ((es1 k).push ⟨.int .i64 (rowAt k).n, Row.zero.val, k⟩) (k + 1)) (lt_of_block n1)
  have n2a := (putObj_other W m1 m2 (.map ((es1 k).push ⟨.int .i64 (rowAt k).n, Row.zero.val, k⟩) (k + 1)) hne).trans n2
  have n2b := (putObj_other (putObj W m1 (.map ((es1 k).push ⟨.int .i64 (rowAt k).n, Row.zero.val, k⟩) (k + 1))) m1 m2 (.map ((es1 k).push ⟨.int .i64 (rowAt k).n, (rowAt k).val, k⟩) (k + 1)) hne).trans n2a
  have k2 := putObj_same _ m2 (.map ((es2 k).push ⟨(rowAt k).key, .int .i64 0, k⟩) (k + 1)) (lt_of_block n2b)
  refine ⟨_, _, _, _, ⟨rfl, rfl, rfl, rfl⟩, entry1 m1 k hk W n1, store1 m1 k (rowAt k).val _ _ _ k1, entry2 m2 k hk _ n2b, store2 m2 k _ _ _ _ k2, ?_, ?_, ?_, ?_⟩
  · exact conj_put R h1c h1b h1x
  · exact conj_put (conj_put R h1c h1b h1x) h1c h1b h1x
  · exact conj_put (conj_put (conj_put R h1c h1b h1x) h1c h1b h1x) h2c h2b h2x
  · exact conj_put (conj_put (conj_put (conj_put R h1c h1b h1x) h1c h1b h1x) h2c h2b h2x) h2c h2b h2x

/-- Behind the round. -/
theorem behind_round (c b g : Nat) (x0 x1 x2 : Value) (w wr W0 W1 W2 W3 W4 : World) (k m1 m2 : Nat) (L : Laying c b x0 x1 x2 w wr k m1 m2) (T : Tab g wr)
    (hc : c < w.heap.size) (hb : b < w.heap.size) (g1 : m1 < g) (g2 : m2 < g) (hW : W0 = wr.alloc (rowBox k)) (S : Steps4 k m1 m2 W0.drew W1 W2 W3 W4) :
    Laying c b x0 x1 x2 w W4 (k + 1) m1 m2 ∧ Tab g W4 := by
  obtain ⟨rfl, rfl, rfl, rfl⟩ := S
  have lb := lt_of_block L.hb
  have lc := lt_of_block L.hc
  have l1 := lt_of_block L.h1
  have l2 := lt_of_block L.h2
  obtain ⟨cur, tg, tc⟩ := T
  have lg := lt_of_block tg
  have q1 := L.l1
  have q2 := L.l2
  have ne := L.ne
  have hs : W0.drew.heap.size = wr.heap.size + 1 := by rw [hW]; exact alloc_size _ _
  have old : ∀ j, j < wr.heap.size → W0.drew.heap[j]? = wr.heap[j]? := fun j hj => by rw [hW]; exact alloc_block_lt _ _ _ hj
  have oth : ∀ j, j < wr.heap.size → ¬ m1 = j → ¬ m2 = j → ∀ a1 a2 a3 a4, (putObj (putObj (putObj (putObj W0.drew m1 a1) m1 a2) m2 a3) m2 a4).heap[j]? = wr.heap[j]? := fun j hj h1 h2 a1 a2 a3 a4 => by
    rw [putObj_other _ _ _ _ h2, putObj_other _ _ _ _ h2, putObj_other _ _ _ _ h1, putObj_other _ _ _ _ h1, old j hj]
  refine ⟨⟨?_, ?_, ?_, ?_, ne, q1, q2, L.kept.os |> fun h => ?_, ?_, ?_, ?_, ?_⟩, cur, ?_, tc⟩
  · rw [oth b lb (by omega) (by omega)]; exact L.hb
  · rw [oth c lc (by omega) (by omega)]; exact L.hc
  · rw [putObj_other _ _ _ _ (fun h => ne h.symm), putObj_other _ _ _ _ (fun h => ne h.symm), putObj_same _ _ _ (by rw [putObj_size, hs]; omega), es1_succ]; rfl
  · rw [putObj_same _ _ _ (by rw [putObj_size, putObj_size, putObj_size, hs]; omega), es2_succ]; rfl
  · rw [← h, hW]; rfl
  · rw [← L.kept.tape, hW]; rfl
  · rw [← L.kept.output, hW]; rfl
  · have := L.kept.size
    rw [putObj_size, putObj_size, putObj_size, putObj_size, hs]; omega
  · intro j hj hjb
    have := L.kept.size
    rw [oth j (by omega) (by omega) (by omega)]; exact L.kept.block j hj hjb
  · rw [oth g lg (by omega) (by omega)]; exact tg
end Go.Proofs.Ytiblamfllnhcgaa
