/- awake. -/
import Derived.Test.YtiblamfllnhcgaaK
namespace Go.Proofs.Ytiblamfllnhcgaa
open Go.RowKit

theorem KeptBut.below {B b : Nat} {w w0 w1 : World} (h : Below B w w0) (k : KeptBut b w0 w1) (hb : B ≤ b) (hB : B ≤ w0.heap.size) : Below B w w1 :=
  ⟨k.os.trans h.os, k.tape.trans h.tape, k.output.trans h.output, Nat.le_trans h.size k.size, fun j hj => (k.block j (Nat.lt_of_lt_of_le hj hB) (by omega)).trans (h.block j hj)⟩

theorem row9 : (getRow 9).name = ⟨#[100, 105, 99, 116]⟩ := by decide +kernel
theorem find_next : findRow 0 ⟨#[110, 101, 120, 116]⟩ = 12 := by decide +kernel
theorem meth_pop : meth 8 ⟨#[112, 111, 112]⟩ = 54 := by decide +kernel
theorem class2 : className 2 = ⟨#[75, 101, 121, 69, 114, 114, 111, 114]⟩ := by decide +kernel

theorem name9 (b : Nat) (w : World) (hB : Book b w) :
    Calls Try.prog 9 #[.pointer (some ⟨b, 0, none⟩), .int .i64 9] w fun e w' => e = .returned (.string ⟨#[100, 105, 99, 116]⟩) ∧ KeptBut b w w' ∧ Ready b w' := by
  have h := name_any b 9 w hB
  rw [row9] at h
  exact h
theorem find12 (b : Nat) (w : World) (hB : Book b w) :
    Calls Try.prog 11 #[.pointer (some ⟨b, 0, none⟩), .string ⟨#[110, 101, 120, 116]⟩] w fun e w' => e = .returned (.int .i64 12) ∧ KeptBut b w w' ∧ Ready b w' := by
  have h := Find_any b ⟨#[110, 101, 120, 116]⟩ w hB
  rw [find_next] at h
  exact h
theorem meth54 (b : Nat) (w : World) (hB : Book b w) :
    Calls Try.prog 13 #[.pointer (some ⟨b, 0, none⟩), .int .i64 8, .string ⟨#[112, 111, 112]⟩] w fun e w' => e = .returned (.int .i64 54) ∧ KeptBut b w w' ∧ Book b w' := by
  have h := Method_any b 8 ⟨#[112, 111, 112]⟩ w hB
  rw [meth_pop] at h
  exact h
theorem class_2 (b : Nat) (w : World) :
    Calls Try.prog 15 #[.pointer (some ⟨b, 0, none⟩), .int .i64 2] w fun e w' => e = .returned (.string ⟨#[75, 101, 121, 69, 114, 114, 111, 114]⟩) ∧ w = w' := by
  have h := Class_any ⟨b, 0, none⟩ 2 w
  rw [class2] at h
  exact h

theorem new_book (w : World) : Book w.heap.size (w.alloc (.cells #[.int .u32 0, .int .i32 0, .int .u32 0, .map none, .map none] 40)) := .inl (alloc_block_new w _)

set_option maxRecDepth 100000 in
set_option maxHeartbeats 800000 in
theorem awake_any (w : World) : Calls Try.prog 5 #[] w fun e w' => e = .returned (.bool true) ∧ Below w.heap.size w w' := by
  have HN := Lib.hid (new_book w)
  have HB := Lib.hid ((Below.refl w.heap.size w).alloc (Nat.le_refl _) (.cells #[.int .u32 0, .int .i32 0, .int .u32 0, .map none, .map none] 40))
  have hs := alloc_size w (.cells #[.int .u32 0, .int .i32 0, .int .u32 0, .map none, .map none] 40)
  obtain ⟨W0, hW⟩ : ∃ W0, w.alloc (.cells #[.int .u32 0, .int .i32 0, .int .u32 0, .map none, .map none] 40) = W0 := ⟨_, rfl⟩
  have HO := Lib.hid (open_any w)
  rw [hW] at HN HB HO hs
  have ls : w.heap.size ≤ W0.heap.size := by omega
  clear hW hs
  obtain ⟨b, hb⟩ : ∃ b, w.heap.size = b := ⟨_, rfl⟩
  rw [hb] at HN HB HO ls ⊢
  clear hb
  go_enter Try.func5, Try.ntmps5
  go_wp2_with (first | (go_at_call 6; refine HO.out.mono ?_; rintro e w' ⟨rfl, rfl⟩) | fail)
  refine (name9 b _ HN.out).mono ?_
  rintro e w1 ⟨rfl, k1, r1⟩
  have H1 := Lib.hid (And.intro (KeptBut.below HB.out k1 (Nat.le_refl _) ls) r1.book)
  have ls1 := Nat.le_trans ls k1.size
  clear k1 r1
  go_wp2_with fail
  refine (find12 b _ H1.out.2).mono ?_
  rintro e w2 ⟨rfl, k1, r1⟩
  have H2 := Lib.hid (And.intro (KeptBut.below H1.out.1 k1 (Nat.le_refl _) ls1) r1.book)
  have ls2 := Nat.le_trans ls1 k1.size
  clear k1 r1
  go_wp2_with fail
  refine (meth54 b _ H2.out.2).mono ?_
  rintro e w3 ⟨rfl, k1, r1⟩
  have H3 := Lib.hid (KeptBut.below H2.out.1 k1 (Nat.le_refl _) ls2)
  clear k1 r1
  go_wp2_with fail
  refine (class_2 b _).mono ?_
  rintro e w4 ⟨rfl, rfl⟩
  go_wp2_with fail
  go_ret
  exact ⟨rfl, H3.out⟩
end Go.Proofs.Ytiblamfllnhcgaa
