/- Plain lemmas: grids, their slots, and proofs that a grid has no filling. No program in sight. -/
import Derived.Lib.Hide
namespace Go.Proofs.Ytjknpmdmchlfcaa

/-- a slot of a grid -/
structure Slt where
  row : Nat
  col : Nat
  down : Bool
  len : Nat
instance : Inhabited Slt := ⟨⟨0, 0, false, 0⟩⟩
/-- the sequences without a block, of two at least -/
def runs : List UInt8 → Nat → Nat → List (Nat × Nat)
  | [], s, n => if 2 ≤ n then [(s, n)] else []
  | c :: l, s, n => if c = 35 then (if 2 ≤ n then [(s, n)] else []) ++ runs l (s + n + 1) 0 else runs l s (n + 1)
def rowL (C : Nat) (L : List UInt8) (r : Nat) : List UInt8 := (L.drop (r * C)).take C
def acrossR (C : Nat) (L : List UInt8) (r : Nat) : List Slt := (runs (rowL C L r) 0 0).map fun p => ⟨r, p.1, false, p.2⟩
def across (R C : Nat) (L : List UInt8) : List Slt := (List.range R).flatMap (acrossR C L)
def turnL (R C : Nat) (L : List UInt8) : List UInt8 := (List.range C).flatMap fun c => (List.range R).map fun r => L.getD (r * C + c) 0
def slots (R C : Nat) (L : List UInt8) : List Slt := across R C L ++ (across C R (turnL R C L)).map fun s => ⟨s.col, s.row, true, s.len⟩
def sqr (C : Nat) (s : Slt) (k : Nat) : Nat := if s.down then (s.row + k) * C + s.col else s.row * C + s.col + k
def patL (C : Nat) (L : List UInt8) (s : Slt) : List UInt8 := (List.range s.len).map fun k => L.getD (sqr C s k) 0
def fitsL : List UInt8 → List UInt8 → Bool
  | [], [] => true
  | a :: p, b :: w => (a == 46 || a == b) && fitsL p w
  | _, _ => false
def putL (C : Nat) (L : List UInt8) (s : Slt) (w : List UInt8) : List UInt8 := (List.range w.length).foldl (fun l k => l.set (sqr C s k) (w.getD k 0)) L
def candL (C : Nat) (L : List UInt8) (s : Slt) (W : List ByteArray) : List ByteArray := W.filter fun x => fitsL (patL C L s) x.data.toList
def chain (k : ByteArray → List Int → Option (List Int)) : List ByteArray → List Int → Option (List Int)
  | [], r => some r
  | x :: xs, r => match k x r with
    | none => none
    | some r' => chain k xs r'
/-- what is left of a proof behind the part for a grid -/
def chk (C : Nat) (S : List Slt) (W : List ByteArray) : Nat → List UInt8 → List Int → Option (List Int)
  | 0, _, _ => none
  | _ + 1, _, [] => none
  | f + 1, L, p :: ps => if 0 ≤ p ∧ p < S.length then chain (fun x r => chk C S W f (putL C L (S.getD p.toNat default) x.data.toList) r) (candL C L (S.getD p.toNat default) W) ps else none
/-- a slot lies in a grid -/
def Slt.within (R C : Nat) (s : Slt) : Prop := if s.down then s.col < C ∧ s.row + s.len ≤ R else s.row < R ∧ s.col + s.len ≤ C
theorem runs_in : ∀ (l : List UInt8) (s n : Nat), ∀ p ∈ runs l s n, p.1 + p.2 ≤ s + n + l.length := by
  intro l
  induction l with
  | nil =>
    intro s n p hp
    unfold runs at hp
    split at hp
    · simp only [List.mem_singleton] at hp
      subst hp
      simp
    · cases hp
  | cons c l ih =>
    intro s n p hp
    unfold runs at hp
    split at hp
    · rcases List.mem_append.1 hp with hp | hp
      · split at hp
        · simp only [List.mem_singleton] at hp
          subst hp
          simp only [List.length_cons]
          omega
        · cases hp
      · have := ih _ _ p hp
        simp only [List.length_cons]
        omega
    · have := ih _ _ p hp
      simp only [List.length_cons]
      omega
theorem across_in {R C : Nat} {L : List UInt8} : ∀ s ∈ across R C L, s.down = false ∧ s.row < R ∧ s.col + s.len ≤ C := by
  intro s hs
  obtain ⟨r, hr, hs⟩ := List.mem_flatMap.1 hs
  obtain ⟨p, hp, rfl⟩ := List.mem_map.1 hs
  have := runs_in _ _ _ p hp
  have hl : (rowL C L r).length ≤ C := List.length_take_le _ _
  exact ⟨rfl, List.mem_range.1 hr, by show p.1 + p.2 ≤ C; omega⟩
theorem slots_in {R C : Nat} {L : List UInt8} : ∀ s ∈ slots R C L, s.within R C := by
  intro s hs
  rcases List.mem_append.1 hs with hs | hs
  · obtain ⟨h1, h2, h3⟩ := across_in s hs
    unfold Slt.within
    rw [if_neg (by rw [h1]; exact Bool.false_ne_true)]
    exact ⟨h2, h3⟩
  · obtain ⟨t, ht, rfl⟩ := List.mem_map.1 hs
    obtain ⟨_, h2, h3⟩ := across_in t ht
    unfold Slt.within
    exact ⟨h2, h3⟩
theorem sqr_lt {R C : Nat} {s : Slt} (h : s.within R C) {k : Nat} (hk : k < s.len) : sqr C s k < R * C := by
  unfold Slt.within at h
  unfold sqr
  split at h
  · rename_i hd
    rw [if_pos hd]
    have : (s.row + k + 1) * C ≤ R * C := Nat.mul_le_mul_right _ (by omega)
    rw [Nat.succ_mul] at this
    omega
  · rename_i hd
    rw [if_neg hd]
    have : (s.row + 1) * C ≤ R * C := Nat.mul_le_mul_right _ (by omega)
    rw [Nat.succ_mul] at this
    omega
theorem foldl_set_len (g : Nat → Nat) (v : Nat → UInt8) : ∀ (ks : List Nat) (l : List UInt8), (ks.foldl (fun l k => l.set (g k) (v k)) l).length = l.length := by
  intro ks
  induction ks with
  | nil => intro l; rfl
  | cons k ks ih => intro l; rw [List.foldl_cons, ih, List.length_set]
theorem putL_len (C : Nat) (L : List UInt8) (s : Slt) (w : List UInt8) : (putL C L s w).length = L.length := foldl_set_len _ _ _ _
theorem fits_len : ∀ (p w : List UInt8), fitsL p w = true → p.length = w.length := by
  intro p
  induction p with
  | nil => intro w h; cases w with
    | nil => rfl
    | cons b w => cases h
  | cons a p ih => intro w h; cases w with
    | nil => cases h
    | cons b w =>
      simp only [fitsL, Bool.and_eq_true] at h
      simp [ih w h.2]
theorem patL_len (C : Nat) (L : List UInt8) (s : Slt) : (patL C L s).length = s.len := by simp [patL]
theorem chain_suffix {k : ByteArray → List Int → Option (List Int)} (hk : ∀ x r r', k x r = some r' → ∃ n, r' = r.drop n) : ∀ (xs : List ByteArray) (r r' : List Int), chain k xs r = some r' → ∃ n, r' = r.drop n := by
  intro xs
  induction xs with
  | nil => intro r r' h; simp only [chain, Option.some.injEq] at h; exact ⟨0, by simp [h]⟩
  | cons x xs ih =>
    intro r r' h
    simp only [chain] at h
    split at h
    · cases h
    · rename_i q hq
      obtain ⟨n, rfl⟩ := hk _ _ _ hq
      obtain ⟨m, rfl⟩ := ih _ _ h
      exact ⟨n + m, by rw [List.drop_drop]⟩
theorem chk_suffix (C : Nat) (S : List Slt) (W : List ByteArray) : ∀ (f : Nat) (L : List UInt8) (P r : List Int), chk C S W f L P = some r → ∃ n, r = P.drop n := by
  intro f
  induction f with
  | zero => intro L P r h; cases h
  | succ f ih =>
    intro L P r h
    cases P with
    | nil => cases h
    | cons p ps =>
      simp only [chk] at h
      split at h
      · obtain ⟨n, rfl⟩ := chain_suffix (fun x r r' h => ih _ _ _ h) _ _ _ h
        exact ⟨n + 1, rfl⟩
      · cases h
theorem runs_go {l : List UInt8} {k : Nat} (h : k < l.length) (hc : l[k] ≠ 35) (s n : Nat) : runs (l.drop k) s n = runs (l.drop (k + 1)) s (n + 1) := by
  rw [List.drop_eq_getElem_cons h, runs, if_neg hc]
theorem runs_stop {l : List UInt8} {k : Nat} (h : k < l.length) (hc : l[k] = 35) (s n : Nat) : runs (l.drop k) s n = (if 2 ≤ n then [(s, n)] else []) ++ runs (l.drop (k + 1)) (s + n + 1) 0 := by
  rw [List.drop_eq_getElem_cons h, runs, if_pos hc]
theorem runs_end {l : List UInt8} {k : Nat} (h : l.length ≤ k) (s n : Nat) : runs (l.drop k) s n = if 2 ≤ n then [(s, n)] else [] := by
  rw [List.drop_eq_nil_of_le h, runs]
theorem fits_step {p w : List UInt8} {k : Nat} (hp : k < p.length) (hw : k < w.length) : fitsL (p.drop k) (w.drop k) = ((p[k] == 46 || p[k] == w[k]) && fitsL (p.drop (k + 1)) (w.drop (k + 1))) := by
  rw [List.drop_eq_getElem_cons hp, List.drop_eq_getElem_cons hw, fitsL]
theorem fits_end {p w : List UInt8} {k : Nat} (hp : p.length ≤ k) (hw : w.length ≤ k) : fitsL (p.drop k) (w.drop k) = true := by
  rw [List.drop_eq_nil_of_le hp, List.drop_eq_nil_of_le hw, fitsL]
/-- the first k letters of a word are put -/
def putK (C : Nat) (L : List UInt8) (s : Slt) (w : List UInt8) (k : Nat) : List UInt8 := (List.range k).foldl (fun l k => l.set (sqr C s k) (w.getD k 0)) L
theorem putK_succ (C : Nat) (L : List UInt8) (s : Slt) (w : List UInt8) (k : Nat) : putK C L s w (k + 1) = (putK C L s w k).set (sqr C s k) (w.getD k 0) := by
  unfold putK
  rw [List.range_succ, List.foldl_append]
  rfl
theorem putK_len (C : Nat) (L : List UInt8) (s : Slt) (w : List UInt8) (k : Nat) : (putK C L s w k).length = L.length := foldl_set_len _ _ _ _
theorem putL_eq (C : Nat) (L : List UInt8) (s : Slt) (w : List UInt8) : putL C L s w = putK C L s w w.length := rfl
theorem rowL_len {R C : Nat} {L : List UInt8} (h : L.length = R * C) {r : Nat} (hr : r < R) : (rowL C L r).length = C := by
  unfold rowL
  have : (r + 1) * C ≤ R * C := Nat.mul_le_mul_right _ (by omega)
  rw [Nat.succ_mul] at this
  rw [List.length_take, List.length_drop]
  omega
theorem rowL_get {C : Nat} {L : List UInt8} {r k : Nat} (h : k < (rowL C L r).length) (h2 : r * C + k < L.length) : (rowL C L r)[k] = L[r * C + k] := by
  unfold rowL at h ⊢
  rw [List.getElem_take, List.getElem_drop]
end Go.Proofs.Ytjknpmdmchlfcaa
