/- The two maps of a Book are laid. -/
import Derived.Test.YtiblamfllnhcgaaG
import Derived.Test.YtiblamfllnhcgaaB
import Derived.BigRegion
import Derived.Deep.DeepCutAuto
import Derived.Deep.RegionHeld3
namespace Go.Proofs.Ytiblamfllnhcgaa
open Go.RowKit

set_option maxRecDepth 100000 in
set_option maxHeartbeats 1000000 in
theorem lay1 (c b : Nat) (x0 x1 x2 v3 v4 : Value) (w : World) (hcb : ¬ c = b) (_hcb' : ¬ b = c)
    (hbb : w.heap[b]? = some (.cells #[x0, x1, x2, v3, v4] 40 (0, 0))) (hcc : w.heap[c]? = some (.cells #[.pointer (some ⟨b, 0, none⟩)] 23 (0, 0))) :
    Calls Try.prog 28 #[.pointer (some ⟨c, 0, none⟩)] w fun e w' => e = .returned (.tuple #[]) ∧ ∃ m1 m2, Laying c b x0 x1 x2 w w' 45 m1 m2 := by
  have hc : w.cell? ⟨c, 0, none⟩ = some (.pointer (some ⟨b, 0, none⟩)) := by simp [World.cell?, hcc]
  have h3 : w.cell? ⟨b, 3, none⟩ = some v3 := by simp [World.cell?, hbb]
  have f3 : w.frozen? ⟨b, 3, none⟩ = false := by simp [World.frozen?, hbb]
  have h4 : w.cell? ⟨b, 4, none⟩ = some v4 := by simp [World.cell?, hbb]
  have f4 : w.frozen? ⟨b, 4, none⟩ = false := by simp [World.frozen?, hbb]
  have L0 := laid0 c b x0 x1 x2 v3 v4 w hcb hbb hcc
  clear hbb hcc
  have hmm := @run_makeMap Try.prog
  have lc : c < w.heap.size := World.block_lt_of_cell? _ _ hc
  have lb : b < w.heap.size := World.block_lt_of_cell? _ _ h3
  have c1 : ∀ (a : Addr) (o : Obj), a.block < w.heap.size → (w.alloc o).cell? a = w.cell? a := fun a o h => World.cell?_alloc_lt _ _ _ h
  have c2 : ∀ (a : Addr) (o o' : Obj), a.block < w.heap.size → ((w.alloc o).alloc o').cell? a = w.cell? a := fun a o o' h => by rw [World.cell?_alloc_lt _ _ _ (by simp; omega)]; exact c1 a o h
  have z1 : ∀ (a : Addr) (o : Obj), a.block < w.heap.size → (w.alloc o).frozen? a = w.frozen? a := fun a o h => World.frozen?_alloc_old _ _ _ (by omega)
  have z2 : ∀ (a : Addr) (o o' : Obj), a.block < w.heap.size → ((w.alloc o).alloc o').frozen? a = w.frozen? a := fun a o o' h => by rw [World.frozen?_alloc_old _ _ _ (by simp; omega)]; exact z1 a o h
  have h43 : ∀ (o o' : Obj) (v : Value), (((w.alloc o).setCell ⟨b, 3, none⟩ v).alloc o').cell? ⟨b, 4, none⟩ = some v4 := fun o o' v => by
    rw [World.cell?_alloc_lt _ _ _ (by simp; omega), World.cell?_setCell_other _ ⟨b, 3, none⟩ ⟨b, 4, none⟩ _ (by simp), c1 _ _ lb, h4]
  have f43 : ∀ (o o' : Obj) (v : Value), (((w.alloc o).setCell ⟨b, 3, none⟩ v).alloc o').frozen? ⟨b, 4, none⟩ = false := fun o o' v => by
    rw [World.frozen?_alloc_old _ _ _ (by simp; omega), World.frozen?_setCell, z1 _ _ lb, f4]
  have hc1 := fun o => (c1 ⟨c, 0, none⟩ o lc).trans hc
  have hc2 := fun o o' => (c2 ⟨c, 0, none⟩ o o' lc).trans hc
  have h31 := fun o => (c1 ⟨b, 3, none⟩ o lb).trans h3
  have h32 := fun o o' => (c2 ⟨b, 3, none⟩ o o' lb).trans h3
  have h41 := fun o => (c1 ⟨b, 4, none⟩ o lb).trans h4
  have h42 := fun o o' => (c2 ⟨b, 4, none⟩ o o' lb).trans h4
  have f31 := fun o => (z1 ⟨b, 3, none⟩ o lb).trans f3
  have f32 := fun o o' => (z2 ⟨b, 3, none⟩ o o' lb).trans f3
  have f41 := fun o => (z1 ⟨b, 4, none⟩ o lb).trans f4
  have f42 := fun o o' => (z2 ⟨b, 4, none⟩ o o' lb).trans f4
  clear c1 c2 z1 z2
  go_enter Try.func28, Try.ntmps28
  go_upto_region 0 with fail
  go_cut [5] (fun s5 wx => ∃ m1 m2, s5 = .map (some m1) ∧ Laying c b x0 x1 x2 w wx 0 m1 m2)
  case first =>
    go_region
    · go_wp2_with fail
      go_meet
      exact ⟨_, _, rfl, L0 _ _ (.inl ⟨rfl, rfl⟩)⟩
    · go_wp2_with fail
      go_meet
      exact ⟨_, _, rfl, L0 _ _ (.inr ⟨rfl, rfl⟩)⟩
  case rest =>
    obtain ⟨m1, m2, rfl, L⟩ := hcut
    clear L0 hc1 hc2 h31 h32 h41 h42 f31 f32 f41 f42 h43 f43 h3 f3 h4 f4 hc hmm
    have LL := Lib.hid L
    clear L
    obtain ⟨i0, hi, hz0, hz1, hz2⟩ := info_parts info50
    go_wp2_with (first | (go_at_call 29; refine (functions_any _).mono ?_; rintro e w' ⟨rfl, rfl⟩) | (go_at_call 30; refine (methods_any _).mono ?_; rintro e w' ⟨rfl, rfl⟩) | fail)
    refine wp_append_own _ (.tmp 11) (.tmp 12) 63 rfl wc.heap.size 50 i0 Row.zero.val 6 56 Try.underlying63 hi hz0 hz1 hz2 rfl (by decide) _ 22 (cellsOf fns).toList rfl
      (own_fns wc) ⟨wc.heap.size + 1, 0, none⟩ 23 23 (cellsOf mths).toList rfl rfl (new_mths wc) one_mths (by unfold maxLen; decide) (by decide) (by simp; omega) ?_
    intro v' w1 hown hgrow hnil
    obtain ⟨g, cap, rfl, hg, T, L1⟩ := behind_append c b x0 x1 x2 w wc w1 m1 m2 LL.out _ hown hgrow
    have lm1 : m1 < g := Nat.lt_of_lt_of_le (lt_of_block LL.out.h1) hg
    have lm2 : m2 < g := Nat.lt_of_lt_of_le (lt_of_block LL.out.h2) hg
    have lwg : w.heap.size ≤ g := Nat.le_trans LL.out.kept.size hg
    have l1 := LL.out.l1
    have l2 := LL.out.l2
    have hne : ¬ m1 = m2 := LL.out.ne
    clear LL hown hgrow hnil hi hz0 hz1 hz2 hg
    simp only [Act.put, List.setIfInBounds_toArray, List.set_cons_zero, List.set_cons_succ]
    have LL := Lib.hid L1
    have TT := Lib.hid T
    clear L1 T
    go_wp2_with fail
    go_loopw [15] (fun t wr => ∃ k : Nat, k ≤ 45 ∧ t = .int .i64 k ∧ Laying c b x0 x1 x2 w wr k m1 m2 ∧ Tab g wr) (fun t _ => 45 - (intOf t).toNat)
    case atStart => exact ⟨0, by omega, rfl, LL.out, TT.out⟩
    case round =>
      obtain ⟨k, hk, rfl, L, T⟩ := hrel
      by_cases hlt : k < 45
      · obtain ⟨q0, q1, q2, q3, q4, q5⟩ := T.cells k hlt
        have HL := Lib.hid L
        have HT := Lib.hid T
        clear L T LL TT
        go_upto_region 4 with fail
        have R0 := round_start c b x0 x1 x2 w wr k m1 m2 HL.out
        have l1' := lt_of_block HL.out.h1
        have l2' := lt_of_block HL.out.h2
        have lb' := lt_of_block HL.out.hb
        have lc' := lt_of_block HL.out.hc
        have n1 : (wr.alloc (rowBox k)).heap[m1]? = some (.map (es1 k) k) := (alloc_block_lt _ _ _ l1').trans HL.out.h1
        have n2 : (wr.alloc (rowBox k)).heap[m2]? = some (.map (es2 k) k) := (alloc_block_lt _ _ _ l2').trans HL.out.h2
        unfold rowBox at R0 n1 n2
        obtain ⟨W0, hW0⟩ : ∃ W0, wr.alloc (Obj.cells #[Value.int IntKind.i64 (rowAt k).n, Value.int IntKind.i64 (rowAt k).kind, Value.string (rowAt k).name, Value.int IntKind.i64 (rowAt k).least, Value.int IntKind.i64 (rowAt k).most, Value.bool (rowAt k).kw] 50) = W0 := ⟨_, rfl⟩
        rw [hW0] at R0 n1 n2 ⊢
        obtain ⟨x, hx⟩ : ∃ x, wr.heap.size = x := ⟨_, rfl⟩
        rw [hx] at R0 l1' l2' lb' lc' ⊢
        have HW0 := Lib.hid hW0
        have HX := Lib.hid hx
        have R0' := R0.drew.conj
        have n1d : W0.drew.heap[m1]? = some (.map (es1 k) k) := n1
        have n2d : W0.drew.heap[m2]? = some (.map (es2 k) k) := n2
        obtain ⟨W1, W2, W3, W4, HW, e1, e3, e2, e4, R1, R2, R3, R4⟩ := four_steps c b x k m1 m2 hlt hne (by omega) (by omega) (by omega) (by omega) (by omega) (by omega) W0.drew n1d n2d R0'
        unfold Row.val Row.cells at e3 e1
        unfold Row.key at e2
        simp only [Row.zero] at e1
        have hex : ∀ (a b : Value) (W : World), (Instr.extract (.tuple #[a, b]) 1).run Try.prog W = .ok b W := fun _ _ _ => by kernel_rfl
        clear hW0 hx q0 q1 q2 q3 q4 q5
        go_region_held3 (fun W => W.cell? ⟨c, 0, none⟩ = some (.pointer (some ⟨b, 0, none⟩)) ∧ W.cell? ⟨b, 3, none⟩ = some (.map (some m1)) ∧ W.cell? ⟨b, 4, none⟩ = some (.map (some m2)) ∧ W.cell? ⟨x, 0, none⟩ = some (.int .i64 (rowAt k).n) ∧ W.cell? ⟨x, 1, none⟩ = some (.int .i64 (rowAt k).kind) ∧ W.cell? ⟨x, 2, none⟩ = some (.string (rowAt k).name) ∧ W.cell? ⟨x, 3, none⟩ = some (.int .i64 (rowAt k).least) ∧ W.cell? ⟨x, 4, none⟩ = some (.int .i64 (rowAt k).most) ∧ W.cell? ⟨x, 5, none⟩ = some (.bool (rowAt k).kw)) (first | exact R0' | exact R1 | exact R2 | exact R3 | exact R4) (first | fail)
        have hend := behind_round c b g x0 x1 x2 w wr W0 W1 W2 W3 W4 k m1 m2 HL.out HT.out lc lb lm1 lm2 HW0.out.symm HW
        have HE := Lib.hid hend
        clear hend e1 e2 e3 e4 R0 R0' R1 R2 R3 R4 hex n1 n2 n1d n2d HW HW0 HX
        go_wp2_with fail
        go_roundw
        case rel => exact ⟨k + 1, by omega, by go_num, HE.out.1, HE.out.2⟩
        case measure => simp [intOf]; omega
      · have h45 : k = 45 := by omega
        subst h45
        have HL := Lib.hid L
        clear L T LL TT
        go_wp2_with fail
        go_end0
        exact ⟨rfl, m1, m2, HL.out⟩
end Go.Proofs.Ytiblamfllnhcgaa
