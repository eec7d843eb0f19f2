/- The methods of a Book, a nil one too. -/
import Derived.Test.YtiblamfllnhcgaaJ
namespace Go.Proofs.Ytiblamfllnhcgaa
open Go.RowKit

theorem Ready.alloc {b : Nat} {w : World} (h : Ready b w) (o : Obj) : Ready b (w.alloc o) := by
  obtain ⟨m1, m2, h, h1, h2⟩ := h
  exact ⟨m1, m2, (alloc_block_lt w o b (lt_of_block h)).trans h, (alloc_block_lt w o m1 (lt_of_block h1)).trans h1, (alloc_block_lt w o m2 (lt_of_block h2)).trans h2⟩

set_option maxHeartbeats 400000 in
theorem open_any (w : World) :
    Calls Try.prog 6 #[] w fun e w' => e = .returned (.pointer (some ⟨w.heap.size, 0, none⟩)) ∧ w' = w.alloc (.cells #[.int .u32 0, .int .i32 0, .int .u32 0, .map none, .map none] 40) := by
  go_enter Try.func6, Try.ntmps6
  go_wp2
  go_ret
  exact ⟨rfl, rfl⟩

set_option maxHeartbeats 400000 in
theorem name_any (b : Nat) (n : Int) (w : World) (hB : Book b w) :
    Calls Try.prog 9 #[.pointer (some ⟨b, 0, none⟩), .int .i64 n] w fun e w' => e = .returned (.string (getRow n).name) ∧ KeptBut b w w' ∧ Ready b w' := by
  have hf : ∀ (a b c d e f : Value) (w : World), (Instr.field 50 (.agg #[a, b, c, d, e, f]) 2).run Try.prog w = .ok c w := fun _ _ _ _ _ _ _ => by kernel_rfl
  have HB := Lib.hid hB
  clear hB
  go_enter Try.func9, Try.ntmps9
  go_wp2_with (go_at_call 19; refine (row_any b n _ HB.out).mono ?_; rintro e w' ⟨rfl, hk⟩; have HK := Lib.hid hk; clear hk)
  go_ret
  exact ⟨rfl, HK.out⟩

set_option maxHeartbeats 400000 in
theorem Find_any (b : Nat) (name : ByteArray) (w : World) (hB : Book b w) :
    Calls Try.prog 11 #[.pointer (some ⟨b, 0, none⟩), .string name] w fun e w' => e = .returned (.int .i64 (findRow 0 name)) ∧ KeptBut b w w' ∧ Ready b w' := by
  have HB := Lib.hid hB
  clear hB
  go_enter Try.func11, Try.ntmps11
  go_wp2_with (go_at_call 21; refine (find_any b 0 name _ HB.out).mono ?_; rintro e w' ⟨rfl, hk⟩; have HK := Lib.hid hk; clear hk)
  go_ret
  exact ⟨rfl, HK.out⟩

set_option maxHeartbeats 400000 in
theorem Method_any (b : Nat) (kind : Int) (name : ByteArray) (w : World) (hB : Book b w) :
    Calls Try.prog 13 #[.pointer (some ⟨b, 0, none⟩), .int .i64 kind, .string name] w fun e w' => e = .returned (.int .i64 (meth kind name)) ∧ KeptBut b w w' ∧ Book b w' := by
  have HB := Lib.hid hB
  clear hB
  by_cases h : kind = 0
  · have hm : meth kind name = 0 := by rw [meth, if_pos h]
    have hb : (kind == 0) = true := by simpa using h
    rw [hm]
    clear h hm
    go_enter Try.func13, Try.ntmps13
    go_wp2_with fail
    go_ret
    exact ⟨rfl, KeptBut.refl _ _, HB.out⟩
  · have hm : meth kind name = findRow kind name := by rw [meth, if_neg h]
    have hb : (kind == 0) = false := by simpa using h
    rw [hm]
    clear h hm
    go_enter Try.func13, Try.ntmps13
    go_wp2_with (go_at_call 21; refine (find_any b kind name _ HB.out).mono ?_; rintro e w' ⟨rfl, hk⟩; have HK := Lib.hid hk; clear hk)
    go_ret
    exact ⟨rfl, HK.out.1, HK.out.2.book⟩

set_option maxHeartbeats 800000 in
theorem Takes_any (b : Nat) (n : Int) (w : World) (hB : Book b w) :
    Calls Try.prog 7 #[.pointer (some ⟨b, 0, none⟩), .int .i64 n] w fun e w' => e = .returned (.tuple #[.int .i64 (getRow n).least, .int .i64 (getRow n).most, .bool (getRow n).kw]) ∧ KeptBut b w w' ∧ Ready b w' := by
  have HB := Lib.hid hB
  clear hB
  go_enter Try.func7, Try.ntmps7
  go_wp2_with (go_at_call 19; refine (row_any b n _ HB.out).mono ?_; rintro e w' ⟨rfl, hk⟩; have HK := Lib.hid hk; clear hk)
  obtain ⟨r, hr⟩ : ∃ r, getRow n = r := ⟨_, rfl⟩
  rw [hr]
  have Hr := Lib.hid hr
  clear hr
  go_wp2
  go_quiet (fail)
  go_wp2
  go_ret3
  exact ⟨by rw [Hr.out]; rfl, (HK.out.1.alloc _).drewN, (HK.out.2.alloc _).drewN⟩

set_option maxHeartbeats 800000 in
theorem row_nil (n : Int) (w : World) :
    Calls Try.prog 19 #[.pointer none, .int .i64 n] w fun e w' => e = .returned (.agg #[.int .i64 0, .int .i64 0, .string ⟨#[]⟩, .int .i64 0, .int .i64 0, .bool false]) ∧ Below w.heap.size w w' := by
  go_enter Try.func19, Try.ntmps19
  go_wp2
  refine bodyPost_ret (v := .agg #[.int .i64 0, .int .i64 0, .string ⟨#[]⟩, .int .i64 0, .int .i64 0, .bool false]) (by simp [results, Try.results19, go_sem]) rfl ⟨rfl, ?_⟩
  exact (Below.refl _ _).alloc (Nat.le_refl _) _

set_option maxHeartbeats 800000 in
theorem find_nil (kind : Int) (name : ByteArray) (w : World) :
    Calls Try.prog 21 #[.pointer none, .agg #[.int .i64 kind, .string name]] w fun e w' => e = .returned (.int .i64 0) ∧ Below w.heap.size w w' := by
  go_enter Try.func21, Try.ntmps21
  go_wp2
  go_ret
  exact ⟨rfl, (Below.refl _ _).alloc (Nat.le_refl _) _⟩

set_option maxHeartbeats 400000 in
theorem name_nil (n : Int) (w : World) :
    Calls Try.prog 9 #[.pointer none, .int .i64 n] w fun e w' => e = .returned (.string ⟨#[]⟩) ∧ Below w.heap.size w w' := by
  have hf : ∀ (a b c d e f : Value) (w : World), (Instr.field 50 (.agg #[a, b, c, d, e, f]) 2).run Try.prog w = .ok c w := fun _ _ _ _ _ _ _ => by kernel_rfl
  go_enter Try.func9, Try.ntmps9
  go_wp2_with (go_at_call 19; refine (row_nil n _).mono ?_; rintro e w' ⟨rfl, hk⟩; have HK := Lib.hid hk; clear hk)
  go_ret
  exact ⟨rfl, HK.out⟩

set_option maxHeartbeats 400000 in
theorem Find_nil (name : ByteArray) (w : World) :
    Calls Try.prog 11 #[.pointer none, .string name] w fun e w' => e = .returned (.int .i64 0) ∧ Below w.heap.size w w' := by
  go_enter Try.func11, Try.ntmps11
  go_wp2_with (go_at_call 21; refine (find_nil 0 name _).mono ?_; rintro e w' ⟨rfl, hk⟩; have HK := Lib.hid hk; clear hk)
  go_ret
  exact ⟨rfl, HK.out⟩

set_option maxHeartbeats 400000 in
theorem Method_nil (kind : Int) (name : ByteArray) (w : World) :
    Calls Try.prog 13 #[.pointer none, .int .i64 kind, .string name] w fun e w' => e = .returned (.int .i64 0) ∧ Below w.heap.size w w' := by
  by_cases h : kind = 0
  · have hb : (kind == 0) = true := by simpa using h
    clear h
    go_enter Try.func13, Try.ntmps13
    go_wp2_with fail
    go_ret
    exact ⟨rfl, Below.refl _ _⟩
  · have hb : (kind == 0) = false := by simpa using h
    clear h
    go_enter Try.func13, Try.ntmps13
    go_wp2_with (go_at_call 21; refine (find_nil kind name _).mono ?_; rintro e w' ⟨rfl, hk⟩; have HK := Lib.hid hk; clear hk)
    go_ret
    exact ⟨rfl, HK.out⟩

set_option maxHeartbeats 800000 in
theorem Takes_nil (n : Int) (w : World) :
    Calls Try.prog 7 #[.pointer none, .int .i64 n] w fun e w' => e = .returned (.tuple #[.int .i64 0, .int .i64 0, .bool false]) ∧ Below w.heap.size w w' := by
  go_enter Try.func7, Try.ntmps7
  go_wp2_with (go_at_call 19; refine (row_nil n _).mono ?_; rintro e w' ⟨rfl, hk⟩; have HK := Lib.hid hk; clear hk)
  go_wp2
  go_quiet (fail)
  go_wp2
  go_ret3
  have h2 := HK.out.alloc HK.out.size (.cells #[.int .i64 0, .int .i64 0, .string ⟨#[]⟩, .int .i64 0, .int .i64 0, .bool false] 50)
  exact ⟨rfl, h2.os, h2.tape, h2.output, h2.size, h2.block⟩
end Go.Proofs.Ytiblamfllnhcgaa
