/- Contracts of what tells the classes, the program's and the reference's. -/
import Derived.Test.YtiblamfllnhcgaaD
namespace Go.Proofs.Ytiblamfllnhcgaa
open Go.RowKit

theorem ret_string {a b : ByteArray} (h : a = b) : Ending.returned (.string a) = .returned (.string b) := by rw [h]
theorem ret_int {k : IntKind} {a b : Int} (h : a = b) : Ending.returned (.int k a) = .returned (.int k b) := by rw [h]

set_option maxHeartbeats 400000 in
theorem class_any (n : Int) (w : World) :
    Calls Try.prog 23 #[.int .i64 n] w fun e w' => e = .returned (.string (className n)) ∧ w = w' := by
  go_enter Try.func23, Try.ntmps23
  go_wp2
  all_goals
    go_ret
    refine ⟨ret_string ?_, rfl⟩
    simp_all [className]

set_option maxHeartbeats 400000 in
theorem Class_any (a : Addr) (n : Int) (w : World) :
    Calls Try.prog 15 #[.pointer (some a), .int .i64 n] w fun e w' => e = .returned (.string (className n)) ∧ w = w' := by
  go_enter Try.func15, Try.ntmps15
  go_wp2_with (go_at_call 23; refine (class_any _ _).mono ?_; rintro e w' ⟨rfl, rfl⟩)
  go_ret
  exact ⟨rfl, rfl⟩

set_option maxHeartbeats 400000 in
theorem Class_nil (n : Int) (w : World) :
    Calls Try.prog 15 #[.pointer none, .int .i64 n] w fun e w' => e = .returned (.string ⟨#[]⟩) ∧ w = w' := by
  go_enter Try.func15, Try.ntmps15
  go_wp2
  go_ret
  exact ⟨rfl, rfl⟩

theorem byteArray_eq {a b : ByteArray} (h : a.toList = b.toList) : a = b := by
  rw [ByteArray.toList_eq, ByteArray.toList_eq] at h
  obtain ⟨⟨x⟩⟩ := a
  obtain ⟨⟨y⟩⟩ := b
  simpa using h

set_option maxHeartbeats 800000 in
theorem Why_any (a : Addr) (name : ByteArray) (w : World) :
    Calls Try.prog 17 #[.pointer (some a), .string name] w fun e w' => e = .returned (.int .i64 (whyOf name)) ∧ w = w' := by
  by_cases he : name.toList = []
  · have hn : name = ⟨#[]⟩ := byteArray_eq (by rw [he, ByteArray.toList_eq])
    subst hn
    rw [whyOf_empty]
    clear he
    go_enter Try.func17, Try.ntmps17
    go_wp2
    go_ret
    exact ⟨rfl, rfl⟩
  · have h1 : name.toList.isEmpty = false := by simpa using he
    have h2 : (!name.toList.isEmpty) = true := by simpa using he
    clear he
    go_enter Try.func17, Try.ntmps17
    go_wp2_with fail
    go_loop [5] (fun i => ∃ k : Nat, k ≤ 11 ∧ i = .int .i64 ((k : Int) + 1) ∧ (∀ j, j < k → whyHit name j = false)) (fun i => 13 - (intOf i).toNat)
    case atStart => exact ⟨0, by omega, rfl, fun j h => absurd h (by omega)⟩
    case round =>
      obtain ⟨k, hk, rfl, hno⟩ := hrel
      have Hno := Lib.hid hno
      clear hno
      by_cases hlt : k < 11
      · by_cases hn : (className ((k : Int) + 1)).toList = name.toList
        · have hb2 : ((className ((k : Int) + 1)).toList == name.toList) = true := by simpa using hn
          have hh : whyHit name k = true := by unfold whyHit; rw [beq_toListBytes, hb2]
          have Hh := Lib.hid hh
          clear hn hh
          go_wp2_with (go_at_call 23; refine (class_any _ _).mono ?_; rintro e w' ⟨rfl, rfl⟩)
          go_ret
          exact ⟨ret_int (whyOf_at name k hlt Hno.out Hh.out).symm, rfl⟩
        · have hb2 : ((className ((k : Int) + 1)).toList == name.toList) = false := by simpa using hn
          have hh : whyHit name k = false := by unfold whyHit; rw [beq_toListBytes, hb2]
          have Hh := Lib.hid hh
          clear hn hh
          go_wp2_with (go_at_call 23; refine (class_any _ _).mono ?_; rintro e w' ⟨rfl, rfl⟩)
          go_round
          case rel => exact ⟨k + 1, by omega, by go_num, fun j hj => by
            by_cases e : j = k
            · rw [e]; exact Hh.out
            · exact Hno.out j (by omega)⟩
          case measure => simp [intOf]; omega
      · have hk11 : k = 11 := by omega
        subst hk11
        go_wp2_with fail
        go_ret
        exact ⟨ret_int (whyOf_none name fun j hj => Hno.out j (by omega)).symm, rfl⟩

set_option maxHeartbeats 400000 in
theorem Why_nil (name : ByteArray) (w : World) :
    Calls Try.prog 17 #[.pointer none, .string name] w fun e w' => e = .returned (.int .i64 0) ∧ w = w' := by
  go_enter Try.func17, Try.ntmps17
  go_wp2
  go_ret
  exact ⟨rfl, rfl⟩

def classCells : List Value := (List.range 11).map fun (j : Nat) => Value.string (className ((j : Int) + 1))

set_option maxHeartbeats 800000 in
theorem classes_any (w : World) :
    Calls Try.prog 24 #[] w fun e w' => e = .returned (.slice (some ⟨w.heap.size, 0, none⟩) 11 11) ∧ w' = w.alloc (.cells classCells.toArray 9) := by
  go_enter Try.func24, Try.ntmps24
  go_wp2
  go_ret
  exact ⟨rfl, rfl⟩

set_option maxHeartbeats 800000 in
theorem rclass_any (n : Int) (w : World) :
    Calls Try.prog 16 #[.int .i64 n] w fun e w' => e = .returned (.string (className n)) ∧ Below w.heap.size w w' := by
  by_cases h : n < 1 ∨ 11 < n
  · have hc : className n = ⟨#[]⟩ := by unfold className; repeat rw [if_neg (by omega)]
    rw [hc]
    rcases h with h | h
    · clear hc
      go_enter Try.func16, Try.ntmps16
      go_wp2_with fail
      go_ret
      exact ⟨rfl, Below.refl _ _⟩
    · have h3 : ¬ n < 1 := by omega
      clear hc
      go_enter Try.func16, Try.ntmps16
      go_wp2_with fail
      go_ret
      exact ⟨rfl, Below.refl _ _⟩
  · have h1 : 1 ≤ n := by omega
    have h2 : n ≤ 11 := by omega
    obtain ⟨k, hk, rfl⟩ : ∃ k : Nat, k < 11 ∧ n = (k : Int) + 1 := ⟨(n - 1).toNat, by omega, by omega⟩
    have hc : classCells[k]? = some (.string (className ((k : Int) + 1))) := by
      unfold classCells; rw [List.getElem?_map, List.getElem?_range hk]; rfl
    have hc' : classCells.toArray[k]? = some (.string (className ((k : Int) + 1))) := by rw [List.getElem?_toArray]; exact hc
    clear hc
    generalize className ((k : Int) + 1) = s at *
    go_enter Try.func16, Try.ntmps16
    go_wp2_with (go_at_call 24; refine (classes_any _).mono ?_; rintro e w' ⟨rfl, rfl⟩)
    go_wp2
    go_ret
    exact ⟨rfl, (Below.refl _ _).alloc (Nat.le_refl _) _⟩

set_option maxHeartbeats 800000 in
theorem rwhy_any (name : ByteArray) (w : World) :
    Calls Try.prog 18 #[.string name] w fun e w' => e = .returned (.int .i64 (whyOf name)) ∧ Below w.heap.size w w' := by
  go_enter Try.func18, Try.ntmps18
  go_wp2_with (go_at_call 24; refine (classes_any _).mono ?_; rintro e w' ⟨rfl, rfl⟩)
  go_loop [4] (fun i => ∃ k : Nat, k ≤ 11 ∧ i = .int .i64 k ∧ (∀ j, j < k → whyHit name j = false)) (fun i => 13 - (intOf i).toNat)
  case atStart => exact ⟨0, by omega, rfl, fun j h => absurd h (by omega)⟩
  case round =>
    obtain ⟨k, hk, rfl, hno⟩ := hrel
    have Hno := Lib.hid hno
    clear hno
    by_cases hlt : k < 11
    · have hc : classCells[k]? = some (.string (className ((k : Int) + 1))) := by
        unfold classCells; rw [List.getElem?_map, List.getElem?_range hlt]; rfl
      have hc' : classCells.toArray[k]? = some (.string (className ((k : Int) + 1))) := by rw [List.getElem?_toArray]; exact hc
      clear hc
      by_cases hn : (className ((k : Int) + 1)).toList = name.toList
      · have hb2 : ((className ((k : Int) + 1)).toList == name.toList) = true := by simpa using hn
        have hh : whyHit name k = true := by unfold whyHit; rw [beq_toListBytes, hb2]
        have Hh := Lib.hid hh
        clear hn hh
        go_wp2
        go_ret
        exact ⟨ret_int (whyOf_at name k hlt Hno.out Hh.out).symm, (Below.refl _ _).alloc (Nat.le_refl _) _⟩
      · have hb2 : ((className ((k : Int) + 1)).toList == name.toList) = false := by simpa using hn
        have hh : whyHit name k = false := by unfold whyHit; rw [beq_toListBytes, hb2]
        have Hh := Lib.hid hh
        clear hn hh
        go_wp2
        go_round
        case rel => exact ⟨k + 1, by omega, by go_num, fun j hj => by
          by_cases e : j = k
          · rw [e]; exact Hh.out
          · exact Hno.out j (by omega)⟩
        case measure => simp [intOf]; omega
    · go_wp2
      go_ret
      exact ⟨ret_int (whyOf_none name fun j hj => Hno.out j (by omega)).symm, (Below.refl _ _).alloc (Nat.le_refl _) _⟩
end Go.Proofs.Ytiblamfllnhcgaa
