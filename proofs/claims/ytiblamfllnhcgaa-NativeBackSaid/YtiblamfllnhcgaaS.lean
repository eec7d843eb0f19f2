/- NativeBack: the plain facts on the table, and the walk. -/
import Derived.Test.YtiblamfllnhcgaaN
namespace Go.Proofs.Ytiblamfllnhcgaa
open Go.RowKit

/-- How many kinds below m have n as their method of that name. -/
def cnt (name : ByteArray) (n : Int) (m : Nat) : Nat := ((List.range m).filter fun (j : Nat) => meth (j : Int) name == n).length
theorem cnt_succ (name : ByteArray) (n : Int) (m : Nat) : cnt name n (m + 1) = cnt name n m + if meth (m : Int) name == n then 1 else 0 := by
  unfold cnt
  rw [List.range_succ, List.filter_append, List.length_append]
  congr 1
  by_cases h : (meth (m : Int) name == n) = true <;> simp [h]

theorem tab_n : ∀ k, k < 45 → 1 ≤ (rowAt k).n ∧ ((rowAt k).n ≤ 22 ∨ 31 ≤ (rowAt k).n) := by decide +kernel
theorem tab_name : ∀ k, k < 45 → (rowAt k).name.data.toList.isEmpty = false := by decide +kernel
theorem tab_find : ∀ k, k < 45 → (findRow 0 (rowAt k).name == (rowAt k).n) = decide ((rowAt k).n ≤ 22) := by decide +kernel
theorem tab_cnt : ∀ k, k < 45 → cnt (rowAt k).name (rowAt k).n 21 = if (rowAt k).n ≤ 22 then 0 else 1 := by decide +kernel
theorem tab_least : ∀ k, k < 45 → 0 ≤ (rowAt k).least ∧ (rowAt k).least ≤ (rowAt k).most := by decide +kernel
theorem tab_why : ∀ k, k < 45 → (rowAt k).n ≤ 11 → whyOf (className (rowAt k).n) = (rowAt k).n := by decide +kernel
theorem tab_kind : ∀ k, k < 45 → 0 ≤ (rowAt k).kind ∧ (rowAt k).kind ≤ 20 := by decide +kernel

theorem meth_far (kind : Int) (name : ByteArray) (h : kind < 0 ∨ 20 < kind) : meth kind name = 0 := by
  unfold meth
  split
  · rfl
  · refine findRow_none kind name fun j hj => ?_
    have := tab_kind j hj
    unfold hit
    have : ((rowAt j).kind == kind) = false := by simp; omega
    rw [show rows.getD j Row.zero = rowAt j from rfl, this]; rfl

/-- Is n a row's number? -/
theorem row_or_none (n : Int) : (∃ k, k < 45 ∧ (rowAt k).n = n ∧ getRow n = rowAt k) ∨ getRow n = Row.zero := by
  by_cases h : ∃ k, k < 45 ∧ (rowAt k).n = n
  · obtain ⟨k, hk, e⟩ := h
    refine .inl ⟨k, hk, e, getRow_at n k hk (fun j hj ej => ?_) e⟩
    have := distinct_n k hk j hj
    rw [e] at this
    have e' : (rowAt j).n = n := ej
    rw [e'] at this
    simp at this
  · exact .inr (getRow_none n fun j hj e => h ⟨j, hj, e⟩)

set_option maxRecDepth 100000 in
set_option maxHeartbeats 800000 in
theorem back_none (n kind : Int) (w : World) (h0 : getRow n = Row.zero) :
    Calls Try.prog 4 #[.int .i64 n, .int .i64 kind] w fun e w' => e = .returned (.bool true) ∧ Below w.heap.size w w' := by
  have H0 := Lib.hid h0
  clear h0
  have HN := Lib.hid (new_book w)
  have HB := Lib.hid ((Below.refl w.heap.size w).alloc (Nat.le_refl _) (.cells #[.int .u32 0, .int .i32 0, .int .u32 0, .map none, .map none] 40))
  have hs := alloc_size w (.cells #[.int .u32 0, .int .i32 0, .int .u32 0, .map none, .map none] 40)
  obtain ⟨W0, hW⟩ : ∃ W0, w.alloc (.cells #[.int .u32 0, .int .i32 0, .int .u32 0, .map none, .map none] 40) = W0 := ⟨_, rfl⟩
  have HO := Lib.hid (open_any w)
  rw [hW] at HN HB HO hs
  have ls : w.heap.size ≤ W0.heap.size := by omega
  clear hW hs
  obtain ⟨b, hb⟩ : ∃ b, w.heap.size = b := ⟨_, rfl⟩
  rw [hb] at HN HB HO ls ⊢
  clear hb
  go_enter Try.func4, Try.ntmps4
  go_wp2_with (first | (go_at_call 6; refine HO.out.mono ?_; rintro e w' ⟨rfl, rfl⟩) | fail)
  refine (name_any b n _ HN.out).mono ?_
  rintro e w1 ⟨rfl, k1, r1⟩
  rw [H0.out]
  have H1 := Lib.hid (And.intro (KeptBut.below HB.out k1 (Nat.le_refl _) ls) r1.book)
  have ls1 := Nat.le_trans ls k1.size
  clear k1 r1
  simp only [Row.zero]
  go_wp2_with fail
  refine (Takes_any b n _ H1.out.2).mono ?_
  rintro e w2 ⟨rfl, k1, r1⟩
  rw [H0.out]
  have H2 := Lib.hid (KeptBut.below H1.out.1 k1 (Nat.le_refl _) ls1)
  have ls2 := Nat.le_trans ls1 k1.size
  clear k1 r1
  simp only [Row.zero]
  go_wp2_with fail
  refine (awake_any _).mono ?_
  rintro e w3 ⟨rfl, k1⟩
  go_wp2_with fail
  go_ret
  exact ⟨rfl, H2.out.trans (k1.mono ls2)⟩

set_option maxRecDepth 100000 in
set_option maxHeartbeats 3200000 in
theorem back_row (n kind : Int) (r : Row) (w : World) (hg : getRow n = r) (hname : r.name.toList.isEmpty = false) (fn : Bool) (hfind : (findRow 0 r.name == n) = fn) (hcnt : cnt r.name n 21 = if fn then 0 else 1)
    (hl0 : 0 ≤ r.least) (hl1 : r.least ≤ r.most) (hwhy : n ≤ 11 → whyOf (className n) = n) (hfar : kind < 0 ∨ 20 < kind → meth kind r.name = 0) (hn : 1 ≤ n) (hfn : if fn then n ≤ 22 else 31 ≤ n) :
    Calls Try.prog 4 #[.int .i64 n, .int .i64 kind] w fun e w' => e = .returned (.bool true) ∧ Below w.heap.size w w' := by
  have H0 := Lib.hid hg
  have HC := Lib.hid hcnt
  have HW := Lib.hid hwhy
  have HF := Lib.hid hfar
  have HP := Lib.hid hfn
  have HD := Lib.hid hfind
  have hempty : (!r.name.toList.isEmpty) = true := by rw [hname]; rfl
  clear hg hcnt hwhy hfar hfn hfind
  have HN := Lib.hid (new_book w)
  have HB := Lib.hid ((Below.refl w.heap.size w).alloc (Nat.le_refl _) (.cells #[.int .u32 0, .int .i32 0, .int .u32 0, .map none, .map none] 40))
  have hs := alloc_size w (.cells #[.int .u32 0, .int .i32 0, .int .u32 0, .map none, .map none] 40)
  obtain ⟨W0, hW⟩ : ∃ W0, w.alloc (.cells #[.int .u32 0, .int .i32 0, .int .u32 0, .map none, .map none] 40) = W0 := ⟨_, rfl⟩
  have HO := Lib.hid (open_any w)
  rw [hW] at HN HB HO hs
  have ls : w.heap.size ≤ W0.heap.size := by omega
  clear hW hs
  obtain ⟨b, hb⟩ : ∃ b, w.heap.size = b := ⟨_, rfl⟩
  rw [hb] at HN HB HO ls ⊢
  clear hb
  go_enter Try.func4, Try.ntmps4
  go_wp2_with (first | (go_at_call 6; refine HO.out.mono ?_; rintro e w' ⟨rfl, rfl⟩) | fail)
  refine (name_any b n _ HN.out).mono ?_
  rintro e w1 ⟨rfl, k1, r1⟩
  rw [H0.out]
  have H1 := Lib.hid (And.intro (KeptBut.below HB.out k1 (Nat.le_refl _) ls) r1.book)
  have ls1 := Nat.le_trans ls k1.size
  clear k1 r1
  go_wp2_with fail
  refine (Takes_any b n _ H1.out.2).mono ?_
  rintro e w2 ⟨rfl, k1, r1⟩
  rw [H0.out]
  have H2 := Lib.hid (And.intro (KeptBut.below H1.out.1 k1 (Nat.le_refl _) ls1) r1.book)
  have ls2 := Nat.le_trans ls1 k1.size
  clear k1 r1 HN HB HO H1 ls ls1
  go_wp2_with fail
  go_loopw [10, 11] (fun c t wr => ∃ k : Nat, k ≤ 21 ∧ t = .int .i64 k ∧ c = .int .i64 (cnt r.name n k : Nat) ∧ Below b w wr ∧ Book b wr ∧ b ≤ wr.heap.size) (fun _ t _ => 21 - (intOf t).toNat)
  case atStart => exact ⟨0, by omega, rfl, rfl, H2.out.1, H2.out.2, ls2⟩
  case round =>
    obtain ⟨k, hk, rfl, rfl, hbe, hbo, hsz⟩ := hrel
    have H3 := Lib.hid (And.intro hbe hbo)
    clear hbe hbo H2 ls2
    have hcb : cnt r.name n k ≤ k := by
      unfold cnt
      have := List.length_filter_le (fun (j : Nat) => meth (j : Int) r.name == n) (List.range k)
      simpa using this
    by_cases hlt : k < 21
    · have HS := Lib.hid (cnt_succ r.name n k)
      by_cases hm : (meth (k : Int) r.name == n) = true
      · have HM := Lib.hid hm
        go_wp2_with fail
        refine (Method_any b k r.name _ H3.out.2).mono ?_
        rintro e w3 ⟨rfl, k1, r1⟩
        have H4 := Lib.hid (And.intro (KeptBut.below H3.out.1 k1 (Nat.le_refl _) hsz) r1)
        have ls3 := Nat.le_trans hsz k1.size
        clear k1 r1
        go_wp2_with fail
        go_roundw
        case rel => exact ⟨k + 1, by omega, by go_num, by rw [HS.out, if_pos HM.out]; go_num, H4.out.1, H4.out.2, ls3⟩
        case measure => simp [intOf]; omega
      · have hm' : (meth (k : Int) r.name == n) = false := by simpa using hm
        have HM := Lib.hid hm'
        clear hm
        go_wp2_with fail
        refine (Method_any b k r.name _ H3.out.2).mono ?_
        rintro e w3 ⟨rfl, k1, r1⟩
        have H4 := Lib.hid (And.intro (KeptBut.below H3.out.1 k1 (Nat.le_refl _) hsz) r1)
        have ls3 := Nat.le_trans hsz k1.size
        clear k1 r1
        go_wp2_with fail
        go_roundw
        case rel => exact ⟨k + 1, by omega, by go_num, by rw [HS.out, HM.out, if_neg (by simp)]; rfl, H4.out.1, H4.out.2, ls3⟩
        case measure => simp [intOf]; omega
    · obtain rfl : k = 21 := by omega
      clear hcb hlt hk
      have hnf := HD.out
      rw [HC.out]
      cases fn
      · have hn31 : 31 ≤ n := HP.out
        have hn22 : ¬ n ≤ 22 := by omega
        clear HC HD HP HW
        simp only [Bool.false_eq_true, if_false]
        go_wp2_with fail
        refine (Find_any b r.name _ H3.out.2).mono ?_
        rintro e w3 ⟨rfl, k1, r1⟩
        have H4 := Lib.hid (And.intro (KeptBut.below H3.out.1 k1 (Nat.le_refl _) hsz) r1.book)
        have ls3 := Nat.le_trans hsz k1.size
        clear k1 r1
        go_wp2_with fail
        all_goals first
          | (refine (awake_any _).mono ?_
             rintro e w5 ⟨rfl, k1⟩
             have H5 := Lib.hid (H4.out.1.trans (k1.mono ls3))
             clear k1
             go_wp2_with fail
             go_ret
             exact ⟨rfl, H5.out⟩)
          | (refine (Method_any b kind r.name _ H4.out.2).mono ?_
             rintro e w4 ⟨rfl, k1, r1⟩
             rw [HF.out (by omega)]
             have H5 := Lib.hid (And.intro (KeptBut.below H4.out.1 k1 (Nat.le_refl _) ls3) (Nat.le_trans ls3 k1.size))
             clear k1 r1
             go_wp2_with fail
             refine (awake_any _).mono ?_
             rintro e w5 ⟨rfl, k1⟩
             have H6 := Lib.hid (H5.out.1.trans (k1.mono H5.out.2))
             clear k1
             go_wp2_with fail
             go_ret
             exact ⟨rfl, H6.out⟩)
      · have hn22 : n ≤ 22 := HP.out
        clear HC HD HP
        simp only [if_true]
        by_cases h11 : n ≤ 11
        · have HW1 := Lib.hid (HW.out h11)
          clear HW
          go_wp2_with fail
          refine (Find_any b r.name _ H3.out.2).mono ?_
          rintro e w3 ⟨rfl, k1, r1⟩
          have H4 := Lib.hid (And.intro (KeptBut.below H3.out.1 k1 (Nat.le_refl _) hsz) r1.book)
          have ls3 := Nat.le_trans hsz k1.size
          clear k1 r1
          go_wp2_with fail
          refine (Class_any ⟨b, 0, none⟩ n _).mono ?_
          rintro e w' ⟨rfl, rfl⟩
          go_wp2_with fail
          refine (Why_any ⟨b, 0, none⟩ _ _).mono ?_
          rintro e w' ⟨rfl, rfl⟩
          rw [HW1.out]
          go_wp2_with fail
          all_goals first
            | (refine (awake_any _).mono ?_
               rintro e w5 ⟨rfl, k1⟩
               have H5 := Lib.hid (H4.out.1.trans (k1.mono ls3))
               clear k1
               go_wp2_with fail
               go_ret
               exact ⟨rfl, H5.out⟩)
            | (refine (Method_any b kind r.name _ H4.out.2).mono ?_
               rintro e w4 ⟨rfl, k1, r1⟩
               rw [HF.out (by omega)]
               have H5 := Lib.hid (And.intro (KeptBut.below H4.out.1 k1 (Nat.le_refl _) ls3) (Nat.le_trans ls3 k1.size))
               clear k1 r1
               go_wp2_with fail
               refine (awake_any _).mono ?_
               rintro e w5 ⟨rfl, k1⟩
               have H6 := Lib.hid (H5.out.1.trans (k1.mono H5.out.2))
               clear k1
               go_wp2_with fail
               go_ret
               exact ⟨rfl, H6.out⟩)
        · have h11' : 11 < n := by omega
          clear HW
          go_wp2_with fail
          refine (Find_any b r.name _ H3.out.2).mono ?_
          rintro e w3 ⟨rfl, k1, r1⟩
          have H4 := Lib.hid (And.intro (KeptBut.below H3.out.1 k1 (Nat.le_refl _) hsz) r1.book)
          have ls3 := Nat.le_trans hsz k1.size
          clear k1 r1
          go_wp2_with fail
          all_goals first
            | (refine (awake_any _).mono ?_
               rintro e w5 ⟨rfl, k1⟩
               have H5 := Lib.hid (H4.out.1.trans (k1.mono ls3))
               clear k1
               go_wp2_with fail
               go_ret
               exact ⟨rfl, H5.out⟩)
            | (refine (Method_any b kind r.name _ H4.out.2).mono ?_
               rintro e w4 ⟨rfl, k1, r1⟩
               rw [HF.out (by omega)]
               have H5 := Lib.hid (And.intro (KeptBut.below H4.out.1 k1 (Nat.le_refl _) ls3) (Nat.le_trans ls3 k1.size))
               clear k1 r1
               go_wp2_with fail
               refine (awake_any _).mono ?_
               rintro e w5 ⟨rfl, k1⟩
               have H6 := Lib.hid (H5.out.1.trans (k1.mono H5.out.2))
               clear k1
               go_wp2_with fail
               go_ret
               exact ⟨rfl, H6.out⟩)

theorem back_law (n kind : Int) (w : World) :
    Calls Try.prog 4 #[.int .i64 n, .int .i64 kind] w fun e w' => e = .returned (.bool true) ∧ Below w.heap.size w w' := by
  rcases row_or_none n with ⟨k, hk, hn, hg⟩ | h0
  · have t1 := tab_n k hk
    have t2 := tab_name k hk
    have t3 := tab_find k hk
    have t4 := tab_cnt k hk
    have t5 := tab_least k hk
    have t6 := tab_why k hk
    rw [hn] at t1 t3 t4 t6
    refine back_row n kind (rowAt k) w hg (by rw [ByteArray.toList_eq]; exact t2) (decide (n ≤ 22)) t3 ?_ t5.1 t5.2 t6 (meth_far kind _) t1.1 ?_
    · rw [t4]; by_cases h : n ≤ 22 <;> simp [h]
    · by_cases h : n ≤ 22
      · simp [h]
      · simp [h]; omega
  · exact back_none n kind w h0
end Go.Proofs.Ytiblamfllnhcgaa
