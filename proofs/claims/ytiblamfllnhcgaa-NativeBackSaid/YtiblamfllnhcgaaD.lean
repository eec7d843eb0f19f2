/- Contracts of the reference's look-ups. -/
import Derived.Test.YtiblamfllnhcgaaC
import Derived.LoopN
import Derived.Deep.QuietTactic
import Derived.BigQuiet
namespace Go.Proofs.Ytiblamfllnhcgaa
open Go.RowKit

set_option maxRecDepth 100000 in
set_option maxHeartbeats 800000 in
theorem get_any (n : Int) (w : World) :
    Calls Try.prog 20 #[.int .i64 n] w fun e w' => e = .returned (.agg #[.int .i64 (getRow n).n, .int .i64 (getRow n).kind, .string (getRow n).name, .int .i64 (getRow n).least, .int .i64 (getRow n).most, .bool (getRow n).kw]) ∧ Below w.heap.size w w' := by
  go_enter Try.func20, Try.ntmps20
  go_wp2_with (go_at_call 26; refine (rows_any _).mono ?_; rintro e w' ⟨rfl, rfl⟩)
  go_loop [4] (fun i => ∃ k : Nat, k ≤ 45 ∧ i = .int .i64 k ∧ (∀ j, j < k → (rows.getD j Row.zero).n ≠ n)) (fun i => 45 - (intOf i).toNat)
  case atStart => exact ⟨0, by omega, rfl, fun j h => absurd h (by omega)⟩
  case round =>
    obtain ⟨k, hk, rfl, hno⟩ := hrel
    have Hno := Lib.hid hno
    clear hno
    by_cases hlt : k < 45
    · obtain ⟨h0, h1, h2, h3, h4, h5⟩ := cellsOf_at rows k (by rw [rows_length]; exact hlt)
      obtain ⟨r, hr⟩ : ∃ r, rows.getD k Row.zero = r := ⟨_, rfl⟩
      rw [hr] at h0 h1 h2 h3 h4 h5
      have Hr := Lib.hid hr
      clear hr
      by_cases hn : r.n = n
      · have hb : (r.n == n) = true := by simpa using hn
        have Hn := Lib.hid hn
        clear hn
        go_wp2
        have hg : getRow n = r := by rw [getRow_at n k hlt Hno.out (by rw [Hr.out]; exact Hn.out), Hr.out]
        refine bodyPost_ret (v := .agg r.cells.toArray) (by simp [results, Try.results20, go_sem, Row.cells]) rfl ⟨by rw [hg]; rfl, ?_⟩
        exact ((Below.refl _ _).alloc (Nat.le_refl _) _).alloc (by simp) _
      · have hb : (r.n == n) = false := by simpa using hn
        have Hn := Lib.hid hn
        clear hn
        go_wp2
        go_round
        case rel => exact ⟨k + 1, by omega, by go_num, fun j hj => by
          by_cases e : j = k
          · rw [e, Hr.out]; exact Hn.out
          · exact Hno.out j (by omega)⟩
        case measure => simp [intOf]; omega
    · go_wp2
      have hg : getRow n = Row.zero := getRow_none n fun j hj => Hno.out j (by omega)
      refine bodyPost_ret (v := .agg Row.zero.cells.toArray) (by simp [results, Try.results20, go_sem, Row.cells, Row.zero]) rfl ⟨by rw [hg]; rfl, ?_⟩
      exact ((Below.refl _ _).alloc (Nat.le_refl _) _).alloc (by simp) _

set_option maxRecDepth 100000 in
set_option maxHeartbeats 800000 in
theorem found_any (kind : Int) (name : ByteArray) (w : World) :
    Calls Try.prog 22 #[.int .i64 kind, .string name] w fun e w' => e = .returned (.int .i64 (findRow kind name)) ∧ Below w.heap.size w w' := by
  go_enter Try.func22, Try.ntmps22
  go_wp2_with (go_at_call 26; refine (rows_any _).mono ?_; rintro e w' ⟨rfl, rfl⟩)
  go_loop [6] (fun i => ∃ k : Nat, k ≤ 45 ∧ i = .int .i64 k ∧ (∀ j, j < k → hit kind name (rows.getD j Row.zero) = false)) (fun i => 45 - (intOf i).toNat)
  case atStart => exact ⟨0, by omega, rfl, fun j h => absurd h (by omega)⟩
  case round =>
    obtain ⟨k, hk, rfl, hno⟩ := hrel
    have Hno := Lib.hid hno
    clear hno
    by_cases hlt : k < 45
    · obtain ⟨h0, h1, h2, h3, h4, h5⟩ := cellsOf_at rows k (by rw [rows_length]; exact hlt)
      obtain ⟨r, hr⟩ : ∃ r, rows.getD k Row.zero = r := ⟨_, rfl⟩
      rw [hr] at h0 h1 h2 h3 h4 h5
      have Hr := Lib.hid hr
      clear hr
      by_cases hk1 : r.kind = kind
      · have hb : (r.kind == kind) = true := by simpa using hk1
        by_cases hn : r.name.toList = name.toList
        · have hb2 : (r.name.toList == name.toList) = true := by simpa using hn
          have hh : hit kind name (rows.getD k Row.zero) = true := by rw [Hr.out]; unfold hit; rw [beq_toListBytes, hb, hb2]; rfl
          have Hh := Lib.hid hh
          clear hn hk1 hh
          go_wp2
          go_ret
          refine ⟨by rw [findRow_at kind name k hlt Hno.out Hh.out, Hr.out]; rfl, ?_⟩
          exact (Below.refl _ _).alloc (Nat.le_refl _) _
        · have hb2 : (r.name.toList == name.toList) = false := by simpa using hn
          have hh : hit kind name (rows.getD k Row.zero) = false := by rw [Hr.out]; unfold hit; rw [beq_toListBytes, hb, hb2]; rfl
          have Hh := Lib.hid hh
          clear hn hk1 hh
          go_wp2
          go_round
          case rel => exact ⟨k + 1, by omega, by go_num, fun j hj => by
            by_cases e : j = k
            · rw [e]; exact Hh.out
            · exact Hno.out j (by omega)⟩
          case measure => simp [intOf]; omega
      · have hb : (r.kind == kind) = false := by simpa using hk1
        clear hk1
        go_wp2
        go_round
        case rel => exact ⟨k + 1, by omega, by go_num, fun j hj => by
          by_cases e : j = k
          · rw [e, Hr.out]; simp [hit, hb]
          · exact Hno.out j (by omega)⟩
        case measure => simp [intOf]; omega
    · go_wp2
      go_ret
      refine ⟨by rw [findRow_none kind name fun j hj => Hno.out j (by omega)]; rfl, ?_⟩
      exact (Below.refl _ _).alloc (Nat.le_refl _) _

theorem bcell {W w1 : World} (hb : Below W.heap.size W w1) : (∀ b o, b < W.heap.size → w1.cell? ⟨b, o, none⟩ = W.cell? ⟨b, o, none⟩) ∧ (∀ b o, b < W.heap.size → w1.frozen? ⟨b, o, none⟩ = W.frozen? ⟨b, o, none⟩) :=
  ⟨fun b o h => hb.cell (p := ⟨b, o, none⟩) h, fun b o h => hb.frozen (p := ⟨b, o, none⟩) h⟩

set_option maxHeartbeats 800000 in
theorem rname_any (n : Int) (w : World) :
    Calls Try.prog 10 #[.int .i64 n] w fun e w' => e = .returned (.string (getRow n).name) ∧ Below w.heap.size w w' := by
  have hf : ∀ (a b c d e f : Value) (w : World), (Instr.field 53 (.agg #[a, b, c, d, e, f]) 2).run Try.prog w = .ok c w := fun _ _ _ _ _ _ _ => by kernel_rfl
  go_enter Try.func10, Try.ntmps10
  go_wp2_with (go_at_call 20; refine (get_any _ _).mono ?_; rintro e w' ⟨rfl, hb⟩)
  obtain ⟨r, hr⟩ : ∃ r, getRow n = r := ⟨_, rfl⟩
  rw [hr]
  go_wp2
  go_ret
  exact ⟨rfl, hb⟩

set_option maxHeartbeats 800000 in
theorem rtakes_any (n : Int) (w : World) :
    Calls Try.prog 8 #[.int .i64 n] w fun e w' => e = .returned (.tuple #[.int .i64 (getRow n).least, .int .i64 (getRow n).most, .bool (getRow n).kw]) ∧ Below w.heap.size w w' := by
  go_enter Try.func8, Try.ntmps8
  go_wp2_with (go_at_call 20; refine (get_any _ _).mono ?_; rintro e w' ⟨rfl, hb⟩)
  obtain ⟨r, hr⟩ : ∃ r, getRow n = r := ⟨_, rfl⟩
  rw [hr]
  go_wp2
  go_quiet (fail)
  go_wp2
  go_ret3
  have h2 := hb.alloc hb.size (.cells #[Value.int IntKind.i64 r.n, Value.int IntKind.i64 r.kind, Value.string r.name, Value.int IntKind.i64 r.least, Value.int IntKind.i64 r.most, Value.bool r.kw] 53)
  exact ⟨by rw [hr]; rfl, h2.os, h2.tape, h2.output, h2.size, h2.block⟩

set_option maxHeartbeats 800000 in
theorem rfind_any (name : ByteArray) (w : World) :
    Calls Try.prog 12 #[.string name] w fun e w' => e = .returned (.int .i64 (findRow 0 name)) ∧ Below w.heap.size w w' := by
  go_enter Try.func12, Try.ntmps12
  go_wp2_with (go_at_call 22; refine (found_any _ _ _).mono ?_; rintro e w' ⟨rfl, hb⟩)
  go_ret
  exact ⟨rfl, hb⟩

def meth (kind : Int) (name : ByteArray) : Int := if kind = 0 then 0 else findRow kind name

set_option maxHeartbeats 800000 in
theorem rmethod_any (kind : Int) (name : ByteArray) (w : World) :
    Calls Try.prog 14 #[.int .i64 kind, .string name] w fun e w' => e = .returned (.int .i64 (meth kind name)) ∧ Below w.heap.size w w' := by
  by_cases h : kind = 0
  · have hm : meth kind name = 0 := by rw [meth, if_pos h]
    have hb : (kind == 0) = true := by simpa using h
    rw [hm]
    clear h hm
    go_enter Try.func14, Try.ntmps14
    go_wp2_with fail
    go_ret
    exact ⟨rfl, Below.refl _ _⟩
  · have hm : meth kind name = findRow kind name := by rw [meth, if_neg h]
    have hb : (kind == 0) = false := by simpa using h
    rw [hm]
    clear h hm
    go_enter Try.func14, Try.ntmps14
    go_wp2_with (go_at_call 22; refine (found_any _ _ _).mono ?_; rintro e w' ⟨rfl, hb⟩)
    go_ret
    exact ⟨rfl, ‹_›⟩
end Go.Proofs.Ytiblamfllnhcgaa
