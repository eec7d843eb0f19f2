/- What the operations on the two maps of a Book do, whatever the world. -/
import Derived.Test.YtiblamfllnhcgaaE
import Derived.Laws.StructEq
namespace Go.Proofs.Ytiblamfllnhcgaa
open Go.RowKit

/-- The world with another object in a block. -/
def putObj (w : World) (m : Nat) (o : Obj) : World := { w with heap := w.heap.setIfInBounds m o }

theorem putObj_size (w : World) (m : Nat) (o : Obj) : (putObj w m o).heap.size = w.heap.size := by simp [putObj]
theorem putObj_same (w : World) (m : Nat) (o : Obj) (h : m < w.heap.size) : (putObj w m o).heap[m]? = some o := by simp [putObj, h]
theorem putObj_other (w : World) (m k : Nat) (o : Obj) (h : m ≠ k) : (putObj w m o).heap[k]? = w.heap[k]? := by
  simp [putObj, h]

def rowAt (k : Nat) : Row := rows.getD k Row.zero
def Row.val (r : Row) : Value := .agg r.cells.toArray
def Row.key (r : Row) : Value := .agg #[.int .i64 r.kind, .string r.name]
def en1 (k : Nat) : MapEntry := ⟨.int .i64 (rowAt k).n, (rowAt k).val, k⟩
def en2 (k : Nat) : MapEntry := ⟨(rowAt k).key, .int .i64 (rowAt k).n, k⟩
def es1 (k : Nat) : Array MapEntry := ((List.range k).map en1).toArray
def es2 (k : Nat) : Array MapEntry := ((List.range k).map en2).toArray

theorem es1_succ (k : Nat) : es1 (k + 1) = (es1 k).push (en1 k) := by simp [es1, List.range_succ]
theorem es2_succ (k : Nat) : es2 (k + 1) = (es2 k).push (en2 k) := by simp [es2, List.range_succ]

/-- The first place that fits. -/
def firstAt (p : Nat → Bool) (v : Nat → Value) : List Nat → Nat → Option (Nat × Value)
  | [], _ => none
  | x :: l, i => if p x then some (i, v x) else firstAt p v l (i + 1)

theorem find1 (n : Int) : ∀ (l : List Nat) (i : Nat), Instr.findNow (.int .i64) (.int .i64 n) (l.map en1) i = some (firstAt (fun k => n == (rowAt k).n) (fun k => (rowAt k).val) l i)
  | [], _ => rfl
  | x :: l, i => by
    simp only [List.map_cons, Instr.findNow, en1, Instr.sameNow, firstAt, if_true]
    cases h : n == (rowAt x).n
    · simp only [Bool.false_eq_true, if_false]; exact find1 n l (i + 1)
    · simp

theorem key_eq (kind : Int) (name : ByteArray) (r : Row) (w : World) : (Op.equal 57 (.agg #[.int .i64 kind, .string name]) r.key).run Try.prog w = .ok (hit kind name r) w := by
  have h0 : Try.prog.stoodInHeld 57 = false := by kernel_rfl
  have hf : Try.prog.underlying 57 = some (.struct (Try.prog.fieldsOf 57)) := by kernel_rfl
  have p0 : ∀ (a b : Value) (w : World), (part 3 #[a, b] 0).run Try.prog w = .ok a w := fun _ _ _ => by kernel_rfl
  have p1 : ∀ (a b : Value) (w : World), (part 9 #[a, b] 1).run Try.prog w = .ok b w := fun _ _ _ => by kernel_rfl
  show (Op.equalIn (9999 + 1) 57 _ _).run _ _ = _
  unfold Row.key
  rw [run_equalIn_struct w 9999 57 _ _ hf h0]
  simp only [Program.fieldsOf, Try.underlying57, Op.eqFields]
  simp [p0, p1, run_equalIn_int w 9998 3 _ _ _ _ Try.underlying3, run_equalIn_string w 9998 9 _ _ Try.underlying9]
  unfold hit
  rw [beq_toListBytes]
  by_cases h1 : kind = r.kind
  · by_cases h2 : name.toList = r.name.toList
    · simp [h1, h2]
    · have h2' : (r.name.toList == name.toList) = false := by simp; exact fun h => h2 h.symm
      simp [h1, h2, h2']
  · have h1' : (r.kind == kind) = false := by simp; exact fun h => h1 h.symm
    simp [h1, h1']

theorem find2 (kind : Int) (name : ByteArray) (w : World) : ∀ (l : List Nat) (i : Nat),
    (Instr.findAsking 57 (.agg #[.int .i64 kind, .string name]) (l.map en2) i).run Try.prog w = .ok (firstAt (fun k => hit kind name (rowAt k)) (fun k => .int .i64 (rowAt k).n) l i) w
  | [], _ => rfl
  | x :: l, i => by
    simp only [List.map_cons, Instr.findAsking, en2, Sem.run_bind, key_eq, Result.andThen_ok, firstAt]
    cases h : hit kind name (rowAt x)
    · simp only [Bool.false_eq_true, if_false]; exact find2 kind name w l (i + 1)
    · simp

theorem firstAt_none (p : Nat → Bool) (v : Nat → Value) : ∀ (l : List Nat) (i : Nat), (∀ x ∈ l, p x = false) → firstAt p v l i = none
  | [], _, _ => rfl
  | x :: l, i, h => by
    rw [firstAt, h x (by simp), if_neg (by simp)]
    exact firstAt_none p v l (i + 1) fun y hy => h y (by simp [hy])

theorem distinct_n : ∀ k, k < 45 → ∀ j, j < k → ((rowAt k).n == (rowAt j).n) = false := by decide +kernel
theorem distinct_key : ∀ k, k < 45 → ∀ j, j < k → hit (rowAt k).kind (rowAt k).name (rowAt j) = false := by decide +kernel

theorem checkKey_int (b : Bool) (n : Int) (w : World) : (Instr.checkKey b 10000 3 (.int .i64 n)).run Try.prog w = .ok () w := by kernel_rfl
theorem checkKey_place (b : Bool) (k : Int) (s : ByteArray) (w : World) : (Instr.checkKey b 10000 57 (.agg #[.int .i64 k, .string s])).run Try.prog w = .ok () w := by kernel_rfl
theorem zero_row (w : World) : (zeroValue 50).run Try.prog w = .ok Row.zero.val w := by kernel_rfl
theorem zero_int (w : World) : (zeroValue 3).run Try.prog w = .ok (.int .i64 0) w := by kernel_rfl

theorem findKey1 (n : Int) (k : Nat) (w : World) : (Instr.findKey 3 (.int .i64 n) (es1 k).toList).run Try.prog w = .ok (firstAt (fun k => n == (rowAt k).n) (fun k => (rowAt k).val) (List.range k) 0) w := by
  simp only [Instr.findKey, Sem.run_bind, run_underlying Try.underlying3, Result.andThen_ok, es1, find1]
  rfl

theorem findKey2 (kind : Int) (name : ByteArray) (k : Nat) (w : World) : (Instr.findKey 57 (.agg #[.int .i64 kind, .string name]) (es2 k).toList).run Try.prog w = .ok (firstAt (fun k => hit kind name (rowAt k)) (fun k => .int .i64 (rowAt k).n) (List.range k) 0) w := by
  simp only [Instr.findKey, Sem.run_bind, run_underlying Try.underlying57, Result.andThen_ok, es2]
  cases k with
  | zero => rfl
  | succ k =>
    rw [List.range_succ_eq_map, List.map_cons, Instr.findNow]
    simp only [en2, Row.key, Instr.sameNow]
    exact find2 kind name w (0 :: List.map Nat.succ (List.range k)) 0

theorem get_map {m : Nat} {w : World} {es : Array MapEntry} {c : Nat} (h : w.heap[m]? = some (.map es c)) : (Go.getObj m).run Try.prog w = .ok (.map es c) w := by
  simp [Go.getObj, Sem.run, h]
theorem set_map {m : Nat} {w : World} {es : Array MapEntry} {c : Nat} (o : Obj) (h : w.heap[m]? = some (.map es c)) : (Go.setObj m o).run Try.prog w = .ok () (putObj w m o) := by
  simp [Go.setObj, Sem.run, h, putObj]

theorem entry1 (m k : Nat) (hk : k < 45) (w : World) (h : w.heap[m]? = some (.map (es1 k) k)) :
    (Instr.mapEntry 37 (.map (some m)) (.int .i64 (rowAt k).n)).run Try.prog w = .ok (.tuple #[Row.zero.val, .int .i64 k]) (putObj w m (.map ((es1 k).push ⟨.int .i64 (rowAt k).n, Row.zero.val, k⟩) (k + 1))) := by
  have hf := findKey1 (rowAt k).n k w
  rw [firstAt_none _ _ _ _ (fun j hj => distinct_n k hk j (List.mem_range.1 hj))] at hf
  simp only [Instr.mapEntry, Sem.run_bind, run_underlying Try.underlying37, Result.andThen_ok, get_map h, checkKey_int, hf, zero_row, set_map _ h]
  rfl

theorem entry2 (m k : Nat) (hk : k < 45) (w : World) (h : w.heap[m]? = some (.map (es2 k) k)) :
    (Instr.mapEntry 38 (.map (some m)) (rowAt k).key).run Try.prog w = .ok (.tuple #[.int .i64 0, .int .i64 k]) (putObj w m (.map ((es2 k).push ⟨(rowAt k).key, .int .i64 0, k⟩) (k + 1))) := by
  have hf := findKey2 (rowAt k).kind (rowAt k).name k w
  rw [firstAt_none _ _ _ _ (fun j hj => distinct_key k hk j (List.mem_range.1 hj))] at hf
  unfold Row.key
  simp only [Instr.mapEntry, Sem.run_bind, run_underlying Try.underlying38, Result.andThen_ok, get_map h, checkKey_place, hf, zero_int, set_map _ h]
  rfl

theorem findIdx_last (f : MapEntry → Bool) (e : MapEntry) (he : f e = true) (l : Array MapEntry) (h : ∀ x ∈ l, f x = false) : (l.push e).findIdx? f = some l.size := by
  rw [Array.findIdx?_push, Array.findIdx?_eq_none_iff.2 (by simpa using h)]
  simp [he]

theorem push_last (l : Array MapEntry) (e : MapEntry) (g : MapEntry → MapEntry) : (l.push e).modify l.size g = l.push (g e) := by
  apply Array.ext
  · simp
  · intro i h1 h2
    simp only [Array.getElem_modify, Array.getElem_push]
    by_cases hi : i < l.size
    · simp [hi, show l.size ≠ i by omega]
    · have : l.size = i := by simp at h2; omega
      simp [this]

theorem store1 (m k : Nat) (v : Value) (w : World) (key z : Value) (h : w.heap[m]? = some (.map ((es1 k).push ⟨key, z, k⟩) (k + 1))) :
    (Instr.entryStore 37 (.map (some m)) (.int .i64 k) v).run Try.prog w = .ok () (putObj w m (.map ((es1 k).push ⟨key, v, k⟩) (k + 1))) := by
  have hi : ((es1 k).push ⟨key, z, k⟩).findIdx? (fun e => (e.born : Int) == (k : Int)) = some (es1 k).size := findIdx_last _ _ (by simp) _ fun x hx => by
    simp only [es1, List.mem_toArray, List.mem_map, List.mem_range] at hx
    obtain ⟨j, hj, rfl⟩ := hx
    simp [en1]; omega
  have ha : (asInt (.int .i64 (k : Int))).run Try.prog w = .ok (k : Int) w := rfl
  simp only [Instr.entryStore, Sem.run_bind, get_map h, Result.andThen_ok, ha, hi, set_map _ h, push_last]

theorem store2 (m k : Nat) (v : Value) (w : World) (key z : Value) (h : w.heap[m]? = some (.map ((es2 k).push ⟨key, z, k⟩) (k + 1))) :
    (Instr.entryStore 38 (.map (some m)) (.int .i64 k) v).run Try.prog w = .ok () (putObj w m (.map ((es2 k).push ⟨key, v, k⟩) (k + 1))) := by
  have hi : ((es2 k).push ⟨key, z, k⟩).findIdx? (fun e => (e.born : Int) == (k : Int)) = some (es2 k).size := findIdx_last _ _ (by simp) _ fun x hx => by
    simp only [es2, List.mem_toArray, List.mem_map, List.mem_range] at hx
    obtain ⟨j, hj, rfl⟩ := hx
    simp [en2]; omega
  have ha : (asInt (.int .i64 (k : Int))).run Try.prog w = .ok (k : Int) w := rfl
  simp only [Instr.entryStore, Sem.run_bind, get_map h, Result.andThen_ok, ha, hi, set_map _ h, push_last]

/-- What the first that fits tells. -/
theorem firstAt_find (p : Nat → Bool) (v : Nat → Value) : ∀ (l : List Nat) (i : Nat), (firstAt p v l i).map (·.2) = (l.find? p).map v
  | [], _ => rfl
  | x :: l, i => by
    rw [firstAt]
    cases h : p x
    · rw [if_neg (by simp), List.find?_cons_of_neg (by simp [h])]; exact firstAt_find p v l (i + 1)
    · rw [if_pos rfl, List.find?_cons_of_pos h]; rfl

theorem rows_range : rows = (List.range 45).map rowAt := by
  apply List.ext_getElem?
  intro i
  rw [List.getElem?_map]
  by_cases h : i < 45
  · rw [List.getElem?_range h]
    have h' : i < rows.length := by rw [rows_length]; exact h
    simp [rowAt, List.getD, List.getElem?_eq_getElem h']
  · have e1 : rows[i]? = none := List.getElem?_eq_none (by rw [rows_length]; omega)
    have e2 : (List.range 45)[i]? = none := List.getElem?_eq_none (by simp; omega)
    rw [e1, e2]; rfl

theorem getRow_range (n : Int) : (((List.range 45).find? fun k => n == (rowAt k).n).map fun k => (rowAt k).val).getD Row.zero.val = (getRow n).val := by
  unfold getRow
  rw [rows_range, List.find?_map]
  have e : ((fun r : Row => r.n == n) ∘ rowAt) = fun k => n == (rowAt k).n := by
    funext k; simp only [Function.comp_apply]; rw [Bool.eq_iff_iff, beq_iff_eq, beq_iff_eq]; exact eq_comm
  rw [e]
  cases (List.range 45).find? fun k => n == (rowAt k).n <;> rfl

theorem findRow_range (kind : Int) (name : ByteArray) : (((List.range 45).find? fun k => hit kind name (rowAt k)).map fun k => Value.int .i64 (rowAt k).n).getD (.int .i64 0) = .int .i64 (findRow kind name) := by
  unfold findRow
  rw [rows_range, List.find?_map]
  have e : (hit kind name ∘ rowAt) = fun k => hit kind name (rowAt k) := rfl
  rw [e]
  cases (List.range 45).find? fun k => hit kind name (rowAt k) <;> rfl

theorem look1 (m : Nat) (n : Int) (w : World) (h : w.heap[m]? = some (.map (es1 45) 45)) : (Instr.lookup 37 (.map (some m)) (.int .i64 n) false).run Try.prog w = .ok (getRow n).val w := by
  rw [← getRow_range, ← firstAt_find _ _ _ 0]
  simp only [Instr.lookup, Sem.run_bind, run_underlying Try.underlying37, Result.andThen_ok, get_map h, Sem.run_pure, checkKey_int, findKey1]
  cases firstAt (fun k => n == (rowAt k).n) (fun k => (rowAt k).val) (List.range 45) 0 with
  | none => simp; rfl
  | some x => obtain ⟨i, v⟩ := x; simp

theorem look2 (m : Nat) (kind : Int) (name : ByteArray) (w : World) (h : w.heap[m]? = some (.map (es2 45) 45)) : (Instr.lookup 38 (.map (some m)) (.agg #[.int .i64 kind, .string name]) false).run Try.prog w = .ok (.int .i64 (findRow kind name)) w := by
  rw [← findRow_range, ← firstAt_find _ _ _ 0]
  simp only [Instr.lookup, Sem.run_bind, run_underlying Try.underlying38, Result.andThen_ok, get_map h, Sem.run_pure, checkKey_place, findKey2]
  cases firstAt (fun k => hit kind name (rowAt k)) (fun k => .int .i64 (rowAt k).n) (List.range 45) 0 with
  | none => simp
  | some x => obtain ⟨i, v⟩ := x; simp
end Go.Proofs.Ytiblamfllnhcgaa
