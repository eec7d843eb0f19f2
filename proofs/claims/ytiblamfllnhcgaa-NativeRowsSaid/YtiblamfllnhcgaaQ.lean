/- NativeRows, walked. -/
import Derived.Test.YtiblamfllnhcgaaN
namespace Go.Proofs.Ytiblamfllnhcgaa
open Go.RowKit

/-- The two Books, the slice that holds them, and all that was there. -/
structure Inv (W : World) (s b1 b2 : Nat) (wr : World) : Prop where
  below : Below W.heap.size W wr
  k1 : Book b1 wr
  k2 : Book b2 wr
  hs : wr.heap[s]? = some (.cells #[.pointer (some ⟨b1, 0, none⟩), .pointer (some ⟨b2, 0, none⟩)] 23 (0, 0))
  ne : b1 ≠ b2
  n1 : s ≠ b1
  n2 : s ≠ b2
  l1 : W.heap.size ≤ b1
  l2 : W.heap.size ≤ b2

theorem Book.cells {b : Nat} {w : World} (h : Book b w) : IsCells b w := by
  rcases h with h | ⟨m1, m2, h, _, _⟩ <;> exact ⟨_, _, _, h⟩

theorem Book.other {b c : Nat} {w w' : World} (h : Book b w) (hc : IsCells c w) (ne : c ≠ b) (k : KeptBut c w w') : Book b w' := by
  obtain ⟨x, e, f, hx⟩ := hc
  rcases h with h | ⟨m1, m2, h, h1, h2⟩
  · exact .inl ((k.block b (lt_of_block h) (fun e => ne e.symm)).trans h)
  · have n1 : m1 ≠ c := fun e => by rw [e, hx] at h1; cases h1
    have n2 : m2 ≠ c := fun e => by rw [e, hx] at h2; cases h2
    exact .inr ⟨m1, m2, (k.block b (lt_of_block h) (fun e => ne e.symm)).trans h, (k.block m1 (lt_of_block h1) n1).trans h1, (k.block m2 (lt_of_block h2) n2).trans h2⟩

theorem Book.under {b : Nat} {w w' : World} (h : Book b w) (k : Below w.heap.size w w') : Book b w' := by
  rcases h with h | ⟨m1, m2, h, h1, h2⟩
  · exact .inl ((k.block b (lt_of_block h)).trans h)
  · exact .inr ⟨m1, m2, (k.block b (lt_of_block h)).trans h, (k.block m1 (lt_of_block h1)).trans h1, (k.block m2 (lt_of_block h2)).trans h2⟩

theorem Inv.kept {W : World} {s b1 b2 b : Nat} {wr w' : World} (I : Inv W s b1 b2 wr) (hb : b = b1 ∨ b = b2) (k : KeptBut b wr w') (r : Book b w') : Inv W s b1 b2 w' := by
  rcases hb with rfl | rfl
  · exact ⟨KeptBut.below I.below k I.l1 I.below.size, r, I.k2.other I.k1.cells I.ne k, (k.block s (lt_of_block I.hs) I.n1).trans I.hs, I.ne, I.n1, I.n2, I.l1, I.l2⟩
  · exact ⟨KeptBut.below I.below k I.l2 I.below.size, I.k1.other I.k2.cells (fun e => I.ne e.symm) k, r, (k.block s (lt_of_block I.hs) I.n2).trans I.hs, I.ne, I.n1, I.n2, I.l1, I.l2⟩

theorem Inv.under {W : World} {s b1 b2 : Nat} {wr w' : World} (I : Inv W s b1 b2 wr) (k : Below wr.heap.size wr w') : Inv W s b1 b2 w' :=
  ⟨I.below.trans (k.mono I.below.size), I.k1.under k, I.k2.under k, (k.block s (lt_of_block I.hs)).trans I.hs, I.ne, I.n1, I.n2, I.l1, I.l2⟩

theorem Inv.book {W : World} {s b1 b2 b : Nat} {wr : World} (I : Inv W s b1 b2 wr) (hb : b = b1 ∨ b = b2) : Book b wr := by
  rcases hb with rfl | rfl
  · exact I.k1
  · exact I.k2

theorem Inv.start (W : World) : Inv W (W.heap.size + 1 + 1) W.heap.size (W.heap.size + 1)
    (((W.alloc (.cells #[.int .u32 0, .int .i32 0, .int .u32 0, .map none, .map none] 40)).alloc (.cells #[.int .u32 0, .int .i32 0, .int .u32 0, .map none, .map none] 40)).alloc
      (.cells #[.pointer (some ⟨W.heap.size, 0, none⟩), .pointer (some ⟨W.heap.size + 1, 0, none⟩)] 23)) := by
  have s1 := alloc_size W (.cells #[.int .u32 0, .int .i32 0, .int .u32 0, .map none, .map none] 40)
  have s2 := alloc_size (W.alloc (.cells #[.int .u32 0, .int .i32 0, .int .u32 0, .map none, .map none] 40)) (.cells #[.int .u32 0, .int .i32 0, .int .u32 0, .map none, .map none] 40)
  have h0 := new_book W
  have h1 := new_book (W.alloc (.cells #[.int .u32 0, .int .i32 0, .int .u32 0, .map none, .map none] 40))
  have h2 := alloc_block_new ((W.alloc (.cells #[.int .u32 0, .int .i32 0, .int .u32 0, .map none, .map none] 40)).alloc (.cells #[.int .u32 0, .int .i32 0, .int .u32 0, .map none, .map none] 40)) (.cells #[.pointer (some ⟨W.heap.size, 0, none⟩), .pointer (some ⟨W.heap.size + 1, 0, none⟩)] 23)
  rw [s1] at h1
  rw [s2, s1] at h2
  refine ⟨(((Below.refl _ _).alloc (Nat.le_refl _) _).alloc (by omega) _).alloc (by omega) _, (h0.alloc _).alloc _, h1.alloc _, h2, by omega, by omega, by omega, by omega, by omega⟩

set_option maxRecDepth 100000 in
set_option maxHeartbeats 1600000 in
theorem rows_law (n kind : Int) (name : ByteArray) (w : World) (hm : name.size ≤ maxLen) :
    Calls Try.prog 3 #[.int .i64 n, .int .i64 kind, .string name] w fun e w' => e = .returned (.bool true) ∧ Below w.heap.size w w' := by
  unfold maxLen at hm
  by_cases hlen : name.size ≤ 3000
  · have HI := Lib.hid (Inv.start w)
    go_enter Try.func3, Try.ntmps3
    go_wp2_with (first | (go_at_call 6; refine (open_any _).mono ?_; rintro e w' ⟨rfl, rfl⟩) | fail)
    go_loopw [9] (fun t wr => ∃ k : Nat, k ≤ 2 ∧ t = .int .i64 k ∧ Inv w (w.heap.size + 1 + 1) w.heap.size (w.heap.size + 1) wr) (fun t _ => 2 - (intOf t).toNat)
    case atStart => exact ⟨0, by omega, rfl, HI.out⟩
    case round =>
      obtain ⟨k, hk, rfl, I⟩ := hrel
      by_cases hlt : k < 2
      · obtain ⟨b, hcell, hb⟩ : ∃ b, wr.cell? ⟨w.heap.size + 1 + 1, k, none⟩ = some (.pointer (some ⟨b, 0, none⟩)) ∧ (b = w.heap.size ∨ b = w.heap.size + 1) := by
          have := cell_of_block I.hs k
          match k, hlt with
          | 0, _ => exact ⟨_, this, .inl rfl⟩
          | 1, _ => exact ⟨_, this, .inr rfl⟩
        have I0 := Lib.hid I
        have Hb := Lib.hid hb
        clear I HI hb
        go_wp2_with fail
        refine (Takes_any b n _ (Inv.book I0.out Hb.out)).mono ?_
        rintro e w1 ⟨rfl, k1, r1⟩
        have I1 := Lib.hid (I0.out.kept Hb.out k1 r1.book)
        clear k1 r1
        go_wp2_with fail
        refine (rtakes_any n _).mono ?_
        rintro e w2 ⟨rfl, k1⟩
        have I2 := Lib.hid (I1.out.under k1)
        clear k1
        go_wp2_with fail
        refine (name_any b n _ (Inv.book I2.out Hb.out)).mono ?_
        rintro e w3 ⟨rfl, k1, r1⟩
        have I3 := Lib.hid (I2.out.kept Hb.out k1 r1.book)
        clear k1 r1
        go_wp2_with fail
        refine (rname_any n _).mono ?_
        rintro e w4 ⟨rfl, k1⟩
        have I4 := Lib.hid (I3.out.under k1)
        clear k1
        go_wp2_with fail
        refine (Find_any b name _ (Inv.book I4.out Hb.out)).mono ?_
        rintro e w5 ⟨rfl, k1, r1⟩
        have I5 := Lib.hid (I4.out.kept Hb.out k1 r1.book)
        clear k1 r1
        go_wp2_with fail
        refine (rfind_any name _).mono ?_
        rintro e w6 ⟨rfl, k1⟩
        have I6 := Lib.hid (I5.out.under k1)
        clear k1
        go_wp2_with fail
        refine (Method_any b kind name _ (Inv.book I6.out Hb.out)).mono ?_
        rintro e w7 ⟨rfl, k1, r1⟩
        have I7 := Lib.hid (I6.out.kept Hb.out k1 r1)
        clear k1 r1
        go_wp2_with fail
        refine (rmethod_any kind name _).mono ?_
        rintro e w8 ⟨rfl, k1⟩
        have I8 := Lib.hid (I7.out.under k1)
        clear k1
        go_wp2_with fail
        refine (Class_any ⟨b, 0, none⟩ n _).mono ?_
        rintro e w' ⟨rfl, rfl⟩
        go_wp2_with fail
        refine (rclass_any n _).mono ?_
        rintro e w9 ⟨rfl, k1⟩
        have I9 := Lib.hid (I8.out.under k1)
        clear k1
        go_wp2_with fail
        refine (Why_any ⟨b, 0, none⟩ name _).mono ?_
        rintro e w' ⟨rfl, rfl⟩
        go_wp2_with fail
        refine (rwhy_any name _).mono ?_
        rintro e w10 ⟨rfl, k1⟩
        have I10 := Lib.hid (I9.out.under k1)
        clear k1
        go_wp2_with fail
        go_roundw
        case rel => exact ⟨k + 1, by omega, by go_num, I10.out⟩
        case measure => simp [intOf]; omega
      · have I0 := Lib.hid I
        clear I HI
        go_wp2_with fail
        refine (Takes_nil n _).mono ?_
        rintro e w1 ⟨rfl, k1⟩
        have I1 := Lib.hid (I0.out.under k1)
        clear k1
        go_wp2_with fail
        refine (name_nil n _).mono ?_
        rintro e w2 ⟨rfl, k1⟩
        have I2 := Lib.hid (I1.out.under k1)
        clear k1
        go_wp2_with fail
        refine (Find_nil name _).mono ?_
        rintro e w3 ⟨rfl, k1⟩
        have I3 := Lib.hid (I2.out.under k1)
        clear k1
        go_wp2_with fail
        refine (Method_nil kind name _).mono ?_
        rintro e w4 ⟨rfl, k1⟩
        have I4 := Lib.hid (I3.out.under k1)
        clear k1
        go_wp2_with fail
        refine (Class_nil n _).mono ?_
        rintro e w' ⟨rfl, rfl⟩
        go_wp2_with fail
        refine (Why_nil name _).mono ?_
        rintro e w' ⟨rfl, rfl⟩
        go_wp2_with fail
        refine (awake_any _).mono ?_
        rintro e w5 ⟨rfl, k1⟩
        have I5 := Lib.hid (I4.out.under k1)
        clear k1
        go_wp2_with fail
        go_ret
        exact ⟨rfl, I5.out.below⟩
  · have h3 : 3000 < name.size := by omega
    go_enter Try.func3, Try.ntmps3
    go_wp2_with (first | (go_at_call 5; refine (awake_any _).mono ?_; rintro e w' ⟨rfl, hb⟩) | fail)
    go_ret
    exact ⟨rfl, hb⟩
end Go.Proofs.Ytiblamfllnhcgaa
