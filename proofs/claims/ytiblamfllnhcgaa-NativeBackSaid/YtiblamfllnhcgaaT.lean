/- The plain tables: the rows of lexicon/native, and what is found in them. No program in sight. -/
import GoSem.Core.World
namespace Go.Proofs.Ytiblamfllnhcgaa

/-- A row: number, kind, name, least, most, keywords. -/
structure Row where
  n : Int
  kind : Int
  name : ByteArray
  least : Int
  most : Int
  kw : Bool
def fns : List Row :=
  [⟨1, 0, ⟨#[112, 114, 105, 110, 116]⟩, 0, 1000, false⟩,
   ⟨2, 0, ⟨#[108, 101, 110]⟩, 1, 1, false⟩,
   ⟨3, 0, ⟨#[104, 97, 115, 104]⟩, 1, 1, false⟩,
   ⟨4, 0, ⟨#[114, 101, 112, 114]⟩, 1, 1, false⟩,
   ⟨5, 0, ⟨#[115, 116, 114]⟩, 0, 1, false⟩,
   ⟨6, 0, ⟨#[98, 111, 111, 108]⟩, 0, 1, false⟩,
   ⟨7, 0, ⟨#[108, 105, 115, 116]⟩, 0, 1, false⟩,
   ⟨8, 0, ⟨#[116, 117, 112, 108, 101]⟩, 0, 1, false⟩,
   ⟨9, 0, ⟨#[100, 105, 99, 116]⟩, 0, 1, true⟩,
   ⟨10, 0, ⟨#[115, 101, 116]⟩, 0, 1, false⟩,
   ⟨11, 0, ⟨#[102, 114, 111, 122, 101, 110, 115, 101, 116]⟩, 0, 1, false⟩,
   ⟨12, 0, ⟨#[110, 101, 120, 116]⟩, 1, 2, false⟩,
   ⟨13, 0, ⟨#[114, 101, 118, 101, 114, 115, 101, 100]⟩, 1, 1, false⟩,
   ⟨14, 0, ⟨#[118, 97, 114, 115]⟩, 1, 1, false⟩,
   ⟨15, 0, ⟨#[105, 110, 112, 117, 116]⟩, 0, 0, false⟩,
   ⟨16, 0, ⟨#[105, 115, 105, 110, 115, 116, 97, 110, 99, 101]⟩, 2, 2, false⟩,
   ⟨17, 0, ⟨#[114, 97, 110, 103, 101]⟩, 1, 2, false⟩,
   ⟨18, 0, ⟨#[103, 101, 116, 97, 116, 116, 114]⟩, 2, 3, false⟩,
   ⟨19, 0, ⟨#[115, 101, 116, 97, 116, 116, 114]⟩, 3, 3, false⟩,
   ⟨20, 0, ⟨#[100, 101, 108, 97, 116, 116, 114]⟩, 2, 2, false⟩,
   ⟨21, 0, ⟨#[104, 97, 115, 97, 116, 116, 114]⟩, 2, 2, false⟩,
   ⟨22, 0, ⟨#[105, 116, 101, 114]⟩, 1, 1, false⟩]
def mths : List Row :=
  [⟨31, 7, ⟨#[107, 101, 121, 115]⟩, 0, 0, false⟩,
   ⟨32, 7, ⟨#[118, 97, 108, 117, 101, 115]⟩, 0, 0, false⟩,
   ⟨33, 7, ⟨#[105, 116, 101, 109, 115]⟩, 0, 0, false⟩,
   ⟨34, 7, ⟨#[103, 101, 116]⟩, 1, 2, false⟩,
   ⟨35, 7, ⟨#[112, 111, 112]⟩, 1, 2, false⟩,
   ⟨36, 7, ⟨#[112, 111, 112, 105, 116, 101, 109]⟩, 0, 0, false⟩,
   ⟨37, 7, ⟨#[115, 101, 116, 100, 101, 102, 97, 117, 108, 116]⟩, 1, 2, false⟩,
   ⟨38, 7, ⟨#[117, 112, 100, 97, 116, 101]⟩, 0, 1, true⟩,
   ⟨39, 7, ⟨#[99, 108, 101, 97, 114]⟩, 0, 0, false⟩,
   ⟨40, 7, ⟨#[99, 111, 112, 121]⟩, 0, 0, false⟩,
   ⟨51, 8, ⟨#[97, 100, 100]⟩, 1, 1, false⟩,
   ⟨52, 8, ⟨#[100, 105, 115, 99, 97, 114, 100]⟩, 1, 1, false⟩,
   ⟨53, 8, ⟨#[114, 101, 109, 111, 118, 101]⟩, 1, 1, false⟩,
   ⟨54, 8, ⟨#[112, 111, 112]⟩, 0, 0, false⟩,
   ⟨55, 8, ⟨#[99, 108, 101, 97, 114]⟩, 0, 0, false⟩,
   ⟨56, 8, ⟨#[99, 111, 112, 121]⟩, 0, 0, false⟩,
   ⟨57, 8, ⟨#[117, 112, 100, 97, 116, 101]⟩, 1, 1, false⟩,
   ⟨61, 9, ⟨#[99, 111, 112, 121]⟩, 0, 0, false⟩,
   ⟨71, 6, ⟨#[97, 112, 112, 101, 110, 100]⟩, 1, 1, false⟩,
   ⟨72, 6, ⟨#[112, 111, 112]⟩, 0, 1, false⟩,
   ⟨73, 6, ⟨#[101, 120, 116, 101, 110, 100]⟩, 1, 1, false⟩,
   ⟨74, 6, ⟨#[99, 108, 101, 97, 114]⟩, 0, 0, false⟩,
   ⟨75, 6, ⟨#[99, 111, 112, 121]⟩, 0, 0, false⟩]
def rows : List Row := fns ++ mths
/-- Its cells. -/
def Row.cells (r : Row) : List Value := [.int .i64 r.n, .int .i64 r.kind, .string r.name, .int .i64 r.least, .int .i64 r.most, .bool r.kw]
def cellsOf (l : List Row) : Array Value := (l.flatMap Row.cells).toArray
/-- No row. -/
def Row.zero : Row := ⟨0, 0, ⟨#[]⟩, 0, 0, false⟩
def getRow (n : Int) : Row := (rows.find? fun r => r.n == n).getD Row.zero
def hit (kind : Int) (name : ByteArray) (r : Row) : Bool := r.kind == kind && r.name == name
def findRow (kind : Int) (name : ByteArray) : Int := ((rows.find? (hit kind name)).map (·.n)).getD 0

theorem cells_at : ∀ (l : List Row) (k j : Nat), k < l.length → j < 6 → (l.flatMap Row.cells)[k * 6 + j]? = (l.getD k Row.zero).cells[j]?
  | [], _, _, h, _ => by simp at h
  | r :: l, 0, j, _, hj => by
    rw [List.flatMap_cons, Nat.zero_mul, Nat.zero_add, List.getElem?_append_left (by simpa [Row.cells] using hj)]
    rfl
  | r :: l, k + 1, j, h, hj => by
    have e : (k + 1) * 6 + j = r.cells.length + (k * 6 + j) := by simp [Row.cells]; omega
    rw [List.flatMap_cons, e, List.getElem?_append_right (by omega), Nat.add_sub_cancel_left]
    rw [cells_at l k j (by simpa using h) hj]
    rfl

/-- The six cells of row k. -/
theorem cellsOf_at (l : List Row) (k : Nat) (h : k < l.length) :
    (cellsOf l)[k * 6]? = some (.int .i64 (l.getD k Row.zero).n) ∧ (cellsOf l)[k * 6 + 1]? = some (.int .i64 (l.getD k Row.zero).kind) ∧
    (cellsOf l)[k * 6 + 2]? = some (.string (l.getD k Row.zero).name) ∧ (cellsOf l)[k * 6 + 3]? = some (.int .i64 (l.getD k Row.zero).least) ∧
    (cellsOf l)[k * 6 + 4]? = some (.int .i64 (l.getD k Row.zero).most) ∧ (cellsOf l)[k * 6 + 5]? = some (.bool (l.getD k Row.zero).kw) := by
  have g : ∀ j, j < 6 → (cellsOf l)[k * 6 + j]? = (l.getD k Row.zero).cells[j]? := fun j hj => by
    unfold cellsOf; rw [List.getElem?_toArray]; exact cells_at l k j h hj
  exact ⟨g 0 (by omega), g 1 (by omega), g 2 (by omega), g 3 (by omega), g 4 (by omega), g 5 (by omega)⟩

theorem rows_length : rows.length = 45 := rfl
theorem fns_length : fns.length = 22 := rfl
theorem mths_length : mths.length = 23 := rfl

/-- The first that fits, at its place. -/
theorem find_at {α : Type} (p : α → Bool) (d : α) : ∀ (l : List α) (k : Nat), k < l.length → (∀ j, j < k → p (l.getD j d) = false) → p (l.getD k d) = true → l.find? p = some (l.getD k d)
  | [], _, h, _, _ => by simp at h
  | x :: l, 0, _, _, hp => by simp only [List.getD_cons_zero] at hp; simp [hp]
  | x :: l, k + 1, h, hn, hp => by
    have h0 : p x = false := by simpa using hn 0 (by omega)
    simp only [List.getD_cons_succ] at hp ⊢
    rw [List.find?_cons_of_neg (by simp [h0])]
    exact find_at p d l k (by simpa using h) (fun j hj => by simpa using hn (j + 1) (by omega)) hp

theorem find_none {α : Type} (p : α → Bool) (d : α) (l : List α) (hn : ∀ j, j < l.length → p (l.getD j d) = false) : l.find? p = none := by
  rw [List.find?_eq_none]
  intro x hx
  obtain ⟨j, hj, rfl⟩ := List.getElem_of_mem hx
  have := hn j hj
  simp only [List.getD, List.getElem?_eq_getElem hj, Option.getD_some] at this
  simp [this]

theorem getRow_at (n : Int) (k : Nat) (hk : k < 45) (hno : ∀ j, j < k → (rows.getD j Row.zero).n ≠ n) (hp : (rows.getD k Row.zero).n = n) : getRow n = rows.getD k Row.zero := by
  unfold getRow
  rw [find_at (fun r => r.n == n) Row.zero rows k (by rw [rows_length]; exact hk) (fun j hj => by simpa using hno j hj) (by simpa using hp)]
  rfl

theorem getRow_none (n : Int) (hno : ∀ j, j < 45 → (rows.getD j Row.zero).n ≠ n) : getRow n = Row.zero := by
  unfold getRow
  rw [find_none (fun r => r.n == n) Row.zero rows (fun j hj => by simpa using hno j (by rw [rows_length] at hj; exact hj))]
  rfl

theorem findRow_at (kind : Int) (name : ByteArray) (k : Nat) (hk : k < 45) (hno : ∀ j, j < k → hit kind name (rows.getD j Row.zero) = false) (hp : hit kind name (rows.getD k Row.zero) = true) :
    findRow kind name = (rows.getD k Row.zero).n := by
  unfold findRow
  rw [find_at (hit kind name) Row.zero rows k (by rw [rows_length]; exact hk) hno hp]
  rfl

theorem findRow_none (kind : Int) (name : ByteArray) (hno : ∀ j, j < 45 → hit kind name (rows.getD j Row.zero) = false) : findRow kind name = 0 := by
  unfold findRow
  rw [show rows.find? (hit kind name) = none from find_none (hit kind name) Row.zero rows (fun j hj => hno j (by rw [rows_length] at hj; exact hj))]
  rfl

/-- The names of the classes, by their numbers. -/
def className (n : Int) : ByteArray :=
  if n = 1 then ⟨#[84, 121, 112, 101, 69, 114, 114, 111, 114]⟩ else
  if n = 2 then ⟨#[75, 101, 121, 69, 114, 114, 111, 114]⟩ else
  if n = 3 then ⟨#[86, 97, 108, 117, 101, 69, 114, 114, 111, 114]⟩ else
  if n = 4 then ⟨#[73, 110, 100, 101, 120, 69, 114, 114, 111, 114]⟩ else
  if n = 5 then ⟨#[65, 116, 116, 114, 105, 98, 117, 116, 101, 69, 114, 114, 111, 114]⟩ else
  if n = 6 then ⟨#[78, 97, 109, 101, 69, 114, 114, 111, 114]⟩ else
  if n = 7 then ⟨#[90, 101, 114, 111, 68, 105, 118, 105, 115, 105, 111, 110, 69, 114, 114, 111, 114]⟩ else
  if n = 8 then ⟨#[83, 116, 111, 112, 73, 116, 101, 114, 97, 116, 105, 111, 110]⟩ else
  if n = 9 then ⟨#[82, 117, 110, 116, 105, 109, 101, 69, 114, 114, 111, 114]⟩ else
  if n = 10 then ⟨#[79, 118, 101, 114, 102, 108, 111, 119, 69, 114, 114, 111, 114]⟩ else
  if n = 11 then ⟨#[69, 120, 99, 101, 112, 116, 105, 111, 110]⟩ else
  ⟨#[]⟩
/-- The number of a class. -/
def whyHit (name : ByteArray) (j : Nat) : Bool := className (j + 1 : Int) == name
def whyOf (name : ByteArray) : Int := (((List.range 11).find? (whyHit name)).map fun j => (j + 1 : Int)).getD 0

theorem whyOf_at (name : ByteArray) (k : Nat) (hk : k < 11) (hno : ∀ j, j < k → whyHit name j = false) (hp : whyHit name k = true) : whyOf name = k + 1 := by
  unfold whyOf
  have e : ∀ j, j < 11 → (List.range 11).getD j 0 = j := by decide
  rw [find_at (whyHit name) 0 (List.range 11) k (by simpa using hk) (fun j hj => by rw [e j (by omega)]; exact hno j hj) (by rw [e k hk]; exact hp), e k hk]
  rfl

theorem whyOf_none (name : ByteArray) (hno : ∀ j, j < 11 → whyHit name j = false) : whyOf name = 0 := by
  unfold whyOf
  have e : ∀ j, j < 11 → (List.range 11).getD j 0 = j := by decide
  rw [find_none (whyHit name) 0 (List.range 11) (fun j hj => by rw [e j (by simpa using hj)]; exact hno j (by simpa using hj))]
  rfl
theorem whyOf_empty : whyOf ⟨#[]⟩ = 0 := by decide +kernel
end Go.Proofs.Ytiblamfllnhcgaa
