/- Plain lemmas: a text taken apart at a byte. No program in sight. · Plain lemmas: the words on a board are the longest sequences of letters in its rows and co · Plain lemmas: the words on a board, row by row and part by part; how many they are at most · Contract: strings.Split at one byte, in plain words. Leans on the variable MaxLen of inter -/
import Derived.Lib.SplitLaws
import Derived.Lib.IndexBytes
import Derived.Test.YtjdcdhhbgijaoaaGreatDoorJnA
import Derived.Test.YtjdcdhhbgijaoaaGreatDoorWoA
import Derived.Test.YtjdcdhhbgijaoaaGreatDoorVar
import Derived.Test.YtjdcdhhbgijaoaaGreatDoorShq
namespace Go.Proofs.YtjdcdhhbgijaoaaGreatDoor
open Go.Lib

/-- the parts of a text between bytes -/
def splitL (c : UInt8) : List UInt8 → List (List UInt8)
  | [] => [[]]
  | b :: l => if b = c then [] :: splitL c l else match splitL c l with
    | [] => [[b]]
    | x :: xs => (b :: x) :: xs
theorem splitL_ne (c : UInt8) (l : List UInt8) : splitL c l ≠ [] := by
  cases l with
  | nil => simp [splitL]
  | cons b l =>
    unfold splitL
    split
    · simp
    · split <;> simp
theorem splitL_app {c : UInt8} {p : List UInt8} (r : List UInt8) (h : c ∉ p) : splitL c (p ++ c :: r) = p :: splitL c r := by
  induction p with
  | nil => simp [splitL]
  | cons b p ih =>
    have hb : b ≠ c := fun e => h (by simp [e])
    rw [List.cons_append, splitL, if_neg hb, ih (fun hm => h (List.mem_cons_of_mem _ hm))]
theorem splitL_none {c : UInt8} {l : List UInt8} (h : c ∉ l) : splitL c l = [l] := by
  induction l with
  | nil => rfl
  | cons b p ih =>
    have hb : b ≠ c := fun e => h (by simp [e])
    rw [splitL, if_neg hb, ih (fun hm => h (List.mem_cons_of_mem _ hm))]
theorem splitL_len (c : UInt8) (l : List UInt8) : (splitL c l).length = l.count c + 1 := by
  induction l with
  | nil => rfl
  | cons b l ih =>
    unfold splitL
    by_cases hb : b = c
    · subst hb
      rw [if_pos rfl, List.length_cons, ih, List.count_cons_self]
    · rw [if_neg hb, List.count_cons_of_ne hb]
      split
      · rename_i h; exact absurd h (splitL_ne c l)
      · rename_i x xs h
        rw [h] at ih
        simpa using ih
theorem split_parts {c : UInt8} {l : List UInt8} : ∀ x ∈ splitL c l, c ∉ x := by
  induction l with
  | nil => intro x hx; simp [splitL] at hx; simp [hx]
  | cons b l ih =>
    unfold splitL
    by_cases hb : b = c
    · rw [if_pos hb]
      intro x hx
      rcases List.mem_cons.1 hx with rfl | hx
      · simp
      · exact ih x hx
    · rw [if_neg hb]
      split
      · rename_i h; exact absurd h (splitL_ne c l)
      · rename_i y ys h
        rw [h] at ih
        intro x hx
        rcases List.mem_cons.1 hx with rfl | hx
        · intro hm
          rcases List.mem_cons.1 hm with hm | hm
          · exact hb hm.symm
          · exact ih y (List.mem_cons_self ..) hm
        · exact ih x (List.mem_cons_of_mem _ hx)
theorem notMem_of {l : List UInt8} {c : UInt8} (h : ∀ k : Nat, l[k]? ≠ some c) : c ∉ l := by
  intro hm
  obtain ⟨k, hk, e⟩ := List.getElem_of_mem hm
  exact h k (by rw [List.getElem?_eq_getElem hk, e])
/-- What the library's Split gives. -/
theorem split_tie (c : UInt8) : ∀ (k : Nat) (s : ByteArray), countB s ⟨#[c]⟩ = k → (splitB ⟨#[c]⟩ 0 k s).map (·.data.toList) = splitL c s.data.toList := by
  intro k
  induction k with
  | zero =>
    intro s h
    have hc : c ∉ s.data.toList := by
      have : s.data.toList.count c = 0 := by rw [← count_one]; exact h
      exact List.count_eq_zero.1 this
    rw [splitL_none hc]
    rfl
  | succ k ih =>
    intro s h
    have hi : indexB s ⟨#[c]⟩ = indexByte s.data.toList c := index_one _ _
    have hne : indexB s ⟨#[c]⟩ ≠ -1 := fun e => by rw [countB_miss _ _ e] at h; omega
    have hge := indexByte_ge s.data.toList c
    obtain ⟨i, hii⟩ : ∃ i : Nat, indexB s ⟨#[c]⟩ = i := ⟨(indexB s ⟨#[c]⟩).toNat, by omega⟩
    have hcount := countB_hit s ⟨#[c]⟩ i (Nat.le_refl _) hii
    rw [splitB_hit _ _ _ _ _ hii]
    obtain ⟨h1, h2⟩ := indexByte_some (hi.symm.trans hii)
    have hlt : i < s.data.toList.length := (List.getElem?_eq_some_iff.1 h1).1
    have hsp : s.data.toList = s.data.toList.take i ++ c :: s.data.toList.drop (i + 1) := by
      have := List.take_append_drop i s.data.toList
      rw [List.drop_eq_getElem_cons hlt, (List.getElem?_eq_some_iff.1 h1).2] at this
      exact this.symm
    have hnm : c ∉ s.data.toList.take i := notMem_of fun k e => by
      by_cases hk : k < i
      · rw [List.getElem?_take_of_lt hk] at e
        exact h2 k hk e
      · rw [List.getElem?_take_eq_none (by omega)] at e
        cases e
    have e1 : (s.extract 0 (i + 0)).data.toList = s.data.toList.take i := by simp
    have hsz : (⟨#[c]⟩ : ByteArray).size = 1 := rfl
    have e2 : (s.extract (i + (⟨#[c]⟩ : ByteArray).size) s.size).data.toList = s.data.toList.drop (i + 1) := by rw [hsz, extract_to_end]
    rw [List.map_cons, ih _ (by omega), e1, e2]
    conv => rhs; rw [hsp]
    rw [splitL_app _ hnm]
end Go.Proofs.YtjdcdhhbgijaoaaGreatDoor
namespace Go.Proofs.YtjdcdhhbgijaoaaGreatDoor
open Go.ChangeShapes Go.WideShapes Go.ChangeAt Go.RowKit Go.Sort

/-! ### Parts of a text -/
def endsAt (c : UInt8) (B : List UInt8) : Prop := B = [] ∨ ∃ B', B = c :: B'
theorem split_back {c : UInt8} : ∀ (l : List UInt8) {x : List UInt8} {xs : List (List UInt8)}, splitL c l = x :: xs → (∃ B, l = x ++ B ∧ endsAt c B) ∧ ∀ w ∈ xs, ∃ A B, l = A ++ c :: (w ++ B) ∧ endsAt c B
  | [], x, xs, h => by
    simp only [splitL, List.cons.injEq] at h
    obtain ⟨rfl, rfl⟩ := h
    exact ⟨⟨[], rfl, .inl rfl⟩, fun w hw => by cases hw⟩
  | b :: l, x, xs, h => by
    obtain ⟨y, ys, hy⟩ : ∃ y ys, splitL c l = y :: ys := by
      cases e : splitL c l with
      | nil => exact absurd e (splitL_ne c l)
      | cons y ys => exact ⟨y, ys, rfl⟩
    obtain ⟨⟨B, h1, h2⟩, h3⟩ := split_back l hy
    unfold splitL at h
    by_cases hb : b = c
    · rw [if_pos hb, hy] at h
      obtain ⟨h4, h5⟩ := List.cons.inj h
      subst h4 h5 hb
      refine ⟨⟨b :: l, rfl, .inr ⟨l, rfl⟩⟩, fun w hw => ?_⟩
      rcases List.mem_cons.1 hw with rfl | hw
      · exact ⟨[], B, by rw [h1]; rfl, h2⟩
      · obtain ⟨A, B2, e, e2⟩ := h3 w hw
        exact ⟨b :: A, B2, by rw [e]; rfl, e2⟩
    · rw [if_neg hb, hy] at h
      obtain ⟨h4, h5⟩ := List.cons.inj h
      subst h4 h5
      refine ⟨⟨B, by rw [h1]; rfl, h2⟩, fun w hw => ?_⟩
      obtain ⟨A, B2, e, e2⟩ := h3 w hw
      exact ⟨b :: A, B2, by rw [e]; rfl, e2⟩
theorem splitL_cat (c : UInt8) : ∀ A r : List UInt8, splitL c (A ++ c :: r) = splitL c A ++ splitL c r
  | [], r => by simp [splitL]
  | b :: A, r => by
    have ih := splitL_cat c A r
    rw [List.cons_append]
    by_cases hb : b = c
    · have e1 : splitL c (b :: (A ++ c :: r)) = [] :: splitL c (A ++ c :: r) := by rw [splitL, if_pos hb]
      have e2 : splitL c (b :: A) = [] :: splitL c A := by rw [splitL, if_pos hb]
      rw [e1, e2, ih]
      rfl
    · obtain ⟨y, ys, hy⟩ : ∃ y ys, splitL c A = y :: ys := by
        cases e : splitL c A with
        | nil => exact absurd e (splitL_ne c A)
        | cons y ys => exact ⟨y, ys, rfl⟩
      have e1 : splitL c (b :: (A ++ c :: r)) = (b :: y) :: (ys ++ splitL c r) := by rw [splitL, if_neg hb, ih, hy]; rfl
      have e2 : splitL c (b :: A) = (b :: y) :: ys := by rw [splitL, if_neg hb, hy]
      rw [e1, e2]
      rfl
theorem run_mem {c : UInt8} {A w B : List UInt8} (hw : c ∉ w) (hA : A = [] ∨ ∃ A', A = A' ++ [c]) (hB : endsAt c B) : w ∈ splitL c (A ++ (w ++ B)) := by
  have h1 : w ∈ splitL c (w ++ B) := by
    rcases hB with rfl | ⟨B', rfl⟩
    · rw [List.append_nil, splitL_none hw]; exact List.mem_singleton.2 rfl
    · rw [splitL_app _ hw]; exact List.mem_cons_self
  rcases hA with rfl | ⟨A', rfl⟩
  · exact h1
  · rw [List.append_assoc]
    show w ∈ splitL c (A' ++ c :: (w ++ B))
    rw [splitL_cat]
    exact List.mem_append_right _ h1

/-! ### Sequences of letters on a line -/
/-- a longest sequence of letters, from i on, of k letters -/
structure Run (F : Int → UInt8) (n i k : Nat) : Prop where
  len : i + k ≤ n
  full : ∀ j : Nat, j < k → fullC (F (i + j)) = true
  before : fullC (F ((i : Int) - 1)) = false
  behind : fullC (F (i + k)) = false
def seqF (F : Int → UInt8) (i k : Nat) : List UInt8 := (List.range k).map fun j : Nat => F (i + j)
theorem seqF_len (F : Int → UInt8) (i k : Nat) : (seqF F i k).length = k := by simp [seqF]
theorem seqF_get {F : Int → UInt8} {i k j : Nat} (h : j < (seqF F i k).length) : (seqF F i k)[j] = F (i + j) := by simp [seqF]
/-- two longest sequences with a common square are one -/
theorem Run.same {F : Int → UInt8} {n i k i' k' : Nat} (h : Run F n i k) (h' : Run F n i' k') {x : Nat} (h1 : i ≤ x) (h2 : x < i + k) (h3 : i' ≤ x) (h4 : x < i' + k') : i = i' ∧ k = k' := by
  have e : i = i' := by
    rcases Nat.lt_trichotomy i i' with hl | hl | hl
    · by_cases hx : i' - 1 - i < k
      · have q := h.full (i' - 1 - i) hx
        rw [show (i : Int) + ((i' - 1 - i : Nat) : Int) = (i' : Int) - 1 by omega, h'.before] at q
        cases q
      · omega
    · exact hl
    · by_cases hx : i - 1 - i' < k'
      · have q := h'.full (i - 1 - i') hx
        rw [show (i' : Int) + ((i - 1 - i' : Nat) : Int) = (i : Int) - 1 by omega, h.before] at q
        cases q
      · omega
  subst e
  refine ⟨rfl, ?_⟩
  rcases Nat.lt_trichotomy k k' with hl | hl | hl
  · have q := h'.full k hl
    rw [h.behind] at q
    cases q
  · exact hl
  · have q := h.full k' hl
    rw [h'.behind] at q
    cases q
def lineL (F : Int → UInt8) (n : Nat) : List UInt8 := (List.range n).map fun c : Nat => F c
theorem lineL_split (F : Int → UInt8) {n i k : Nat} (h : i + k ≤ n) : lineL F n = lineL F i ++ (seqF F i k ++ (List.range (n - (i + k))).map fun j : Nat => F ((i + k + j : Nat) : Int)) := by
  unfold lineL seqF
  have e : n = i + (k + (n - (i + k))) := by omega
  conv => lhs; rw [e, List.range_add, List.map_append, List.range_add, List.map_append, List.map_append]
  congr 1
  simp only [List.map_map]
  congr 1
  refine List.map_congr_left fun j _ => ?_
  simp only [Function.comp_apply]
  rw [Nat.add_assoc]
theorem fullC_of {c : UInt8} (h0 : c ≠ 0) (h1 : c ≠ 46) : fullC c = true := by unfold fullC; simp [h0, h1]
theorem fullC_not {c : UInt8} (h : fullC c = false) (h0 : c ≠ 0) : c = 46 := by
  unfold fullC at h
  simpa [h0] using h
/-- the parts of two letters and more of a line are its longest sequences -/
theorem line_runs {F : Int → UInt8} {n : Nat} (h0 : ∀ c : Nat, c < n → F c ≠ 0) (hl : F (-1) = 0) (hr : F n = 0) {w : List UInt8} : (w ∈ splitL 46 (lineL F n) ∧ 2 ≤ w.length) ↔ ∃ i k, 2 ≤ k ∧ Run F n i k ∧ w = seqF F i k := by
  have hlen : (lineL F n).length = n := by simp [lineL]
  have hget : ∀ c (h : c < (lineL F n).length), (lineL F n)[c] = F c := fun c h => by simp [lineL]
  constructor
  · rintro ⟨hm, h2⟩
    have hn46 := split_parts w hm
    have hparts : ∃ A B, lineL F n = A ++ (w ++ B) ∧ (A = [] ∨ ∃ A', A = A' ++ [46]) ∧ endsAt 46 B := by
      cases e : splitL 46 (lineL F n) with
      | nil => exact absurd e (splitL_ne _ _)
      | cons x xs =>
        obtain ⟨⟨B, h3, h4⟩, h5⟩ := split_back _ e
        rw [e] at hm
        rcases List.mem_cons.1 hm with rfl | hm
        · exact ⟨[], B, h3, .inl rfl, h4⟩
        · obtain ⟨A, B2, e1, e2⟩ := h5 w hm
          exact ⟨A ++ [46], B2, by rw [e1, List.append_assoc]; rfl, .inr ⟨A, rfl⟩, e2⟩
    obtain ⟨A, B, he, hA, hB⟩ := hparts
    have hn : A.length + (w.length + B.length) = n := by rw [← hlen, he]; simp
    have hw : ∀ j (hj : j < w.length), w[j] = F ((A.length + j : Nat) : Int) := fun j hj => by
      have := hget (A.length + j) (by rw [hlen]; omega)
      rw [← this]
      simp only [he]
      rw [List.getElem_append_right (by omega), List.getElem_append_left (by omega)]
      congr 1
      omega
    refine ⟨A.length, w.length, h2, ⟨by omega, fun j hj => ?_, ?_, ?_⟩, ?_⟩
    · have e1 := hw j hj
      have e2 := h0 (A.length + j) (by omega)
      rw [← Int.natCast_add, ← e1]
      refine fullC_of (by rw [e1]; exact e2) fun e3 => hn46 ?_
      rw [← e3]; exact List.getElem_mem _
    · rcases hA with rfl | ⟨A', rfl⟩
      · show fullC (F (-1)) = false
        rw [hl]; rfl
      · have := hget A'.length (by rw [hlen]; simp at hn; omega)
        simp only [he, List.append_assoc] at this
        rw [List.getElem_append_right (Nat.le_refl _)] at this
        simp at this
        rw [List.length_append, List.length_singleton]
        rw [show ((A'.length + 1 : Nat) : Int) - 1 = A'.length by omega, ← this]
        rfl
    · rcases hB with rfl | ⟨B', rfl⟩
      · have : A.length + w.length = n := by simpa using hn
        rw [← Int.natCast_add, this, hr]; rfl
      · have := hget (A.length + w.length) (by rw [hlen]; simp at hn; omega)
        simp only [he] at this
        rw [List.getElem_append_right (by omega), List.getElem_append_right (by omega)] at this
        simp at this
        rw [← this]
        rfl
    · refine List.ext_getElem (by rw [seqF_len]) fun j h3 h4 => ?_
      rw [hw j h3, seqF_get h4, Int.natCast_add]
  · rintro ⟨i, k, hk, hrun, rfl⟩
    rw [seqF_len]
    refine ⟨?_, hk⟩
    rw [lineL_split F hrun.len]
    refine run_mem ?_ ?_ ?_
    · intro hm
      obtain ⟨j, hj, e⟩ := List.mem_map.1 hm
      have := hrun.full j (List.mem_range.1 hj)
      rw [e] at this
      exact absurd this (by decide)
    · cases i with
      | zero => exact .inl rfl
      | succ i =>
        refine .inr ⟨lineL F i, ?_⟩
        have := hrun.before
        rw [show ((i + 1 : Nat) : Int) - 1 = i by omega] at this
        have e := fullC_not this (h0 i (by have := hrun.len; omega))
        unfold lineL
        rw [List.range_succ, List.map_append]
        simp [e]
    · cases hm : n - (i + k) with
      | zero => exact .inl rfl
      | succ m =>
        refine .inr ⟨(List.range m).map fun j : Nat => F ((i + k + (j + 1) : Nat) : Int), ?_⟩
        have := hrun.behind
        rw [← Int.natCast_add] at this
        have e := fullC_not this (h0 (i + k) (by omega))
        rw [List.range_succ_eq_map, List.map_cons, List.map_map]
        simp only [Nat.add_zero, e]
        rfl

/-! ### The words on a board -/
def Brd.rowWords (b : Brd) (n : Nat) : List (List UInt8) := (List.range n).flatMap fun r : Nat => ((splitL 46 (lineL (b.cell r) n)).filter fun w => decide (2 ≤ w.length)).map lowL
def Brd.wordsOn (b : Brd) : List ByteArray := (b.rowWords b.size.toNat ++ b.turn.rowWords b.size.toNat).map mkB
theorem Brd.Good.row_words {b : Brd} {n : Nat} (h : b.Good n) {w : List UInt8} : w ∈ b.rowWords n ↔ ∃ r i k : Nat, r < n ∧ 2 ≤ k ∧ Run (b.cell r) n i k ∧ w = lowL (seqF (b.cell r) i k) := by
  have hline : ∀ r : Nat, r < n → ∀ v : List UInt8, (v ∈ splitL 46 (lineL (b.cell r) n) ∧ 2 ≤ v.length) ↔ ∃ i k, 2 ≤ k ∧ Run (b.cell r) n i k ∧ v = seqF (b.cell r) i k := fun r hr v =>
    line_runs (fun c hc => h.cell_ne0 (h.inB.2 ⟨⟨by omega, by omega⟩, by omega, by omega⟩)) (Brd.cell_out (by
      cases e : b.inB r (-1) with
      | false => rfl
      | true => have := (h.inB.1 e).2.1; omega)) (Brd.cell_out (by
      cases e : b.inB r n with
      | false => rfl
      | true => have := (h.inB.1 e).2.2; omega))
  unfold Brd.rowWords
  rw [List.mem_flatMap]
  constructor
  · rintro ⟨r, hr, hw⟩
    obtain ⟨v, hv, rfl⟩ := List.mem_map.1 hw
    obtain ⟨hv1, hv2⟩ := List.mem_filter.1 hv
    have hr := List.mem_range.1 hr
    obtain ⟨i, k, h1, h2, h3⟩ := (hline r hr v).1 ⟨hv1, of_decide_eq_true hv2⟩
    exact ⟨r, i, k, hr, h1, h2, by rw [h3]⟩
  · rintro ⟨r, i, k, hr, h1, h2, rfl⟩
    obtain ⟨h3, h4⟩ := (hline r hr _).2 ⟨i, k, h1, h2, rfl⟩
    exact ⟨r, List.mem_range.2 hr, List.mem_map.2 ⟨_, List.mem_filter.2 ⟨h3, decide_eq_true h4⟩, rfl⟩⟩
theorem Brd.Good.words_on {b : Brd} {n : Nat} (h : b.Good n) {x : ByteArray} : x ∈ b.wordsOn ↔ ∃ d : Bool, ∃ r i k : Nat, r < n ∧ 2 ≤ k ∧ Run ((b.flat d).cell r) n i k ∧ x = mkB (lowL (seqF ((b.flat d).cell r) i k)) := by
  have e : b.size.toNat = n := by rw [h.size]; simp
  unfold Brd.wordsOn
  rw [e]
  constructor
  · intro hx
    obtain ⟨w, hw, rfl⟩ := List.mem_map.1 hx
    rcases List.mem_append.1 hw with hw | hw
    · obtain ⟨r, i, k, h1, h2, h3, rfl⟩ := h.row_words.1 hw
      exact ⟨false, r, i, k, h1, h2, h3, rfl⟩
    · obtain ⟨r, i, k, h1, h2, h3, rfl⟩ := h.turn.row_words.1 hw
      exact ⟨true, r, i, k, h1, h2, h3, rfl⟩
  · rintro ⟨d, r, i, k, h1, h2, h3, rfl⟩
    refine List.mem_map.2 ⟨_, List.mem_append.2 ?_, rfl⟩
    cases d with
    | false => exact .inl (h.row_words.2 ⟨r, i, k, h1, h2, h3, rfl⟩)
    | true => exact .inr (h.turn.row_words.2 ⟨r, i, k, h1, h2, h3, rfl⟩)

/-! ### After a play -/
theorem letB_full {c : UInt8} (h : letB c.toNat = true) : fullC c = true := by
  refine fullC_of (fun e => ?_) (fun e => ?_)
  · subst e; exact absurd h (by decide)
  · subst e; exact absurd h (by decide)
/-- the main word is a longest sequence of the board after the play -/
theorem PGood.main_run {b : Brd} {p : Ply} {n : Nat} (h : PGood b p n) : ∃ r i : Nat, p.r = r ∧ p.c = i ∧ r < n ∧ Run ((b.made p).view p r) n i p.word.size ∧ seqF ((b.made p).view p r) i p.word.size = p.word.data.toList := by
  have h1 := h.r0
  have h2 := h.r1
  have h3 := h.c0
  have h4 := h.c1
  obtain ⟨r, hr⟩ := Int.eq_ofNat_of_zero_le h1
  obtain ⟨i, hi⟩ := Int.eq_ofNat_of_zero_le h3
  have hin : ∀ j : Nat, j < p.word.size → (b.made p).view p r ((i : Int) + j) = p.word.data.toList.getD j 0 := fun j hj => by rw [← hr, ← hi]; exact h.made_in hj
  refine ⟨r, i, hr, hi, by omega, ⟨by omega, fun j hj => ?_, ?_, ?_⟩, ?_⟩
  · rw [hin j hj, u8_byte hj]
    exact letB_full ((List.all_eq_true.1 h.letters) _ (by rw [← bytes_get p.word j hj]; exact List.getElem_mem _))
  · have := h.made_out (R := p.r) (C := p.c - 1) (.inr (.inl (by omega)))
    rw [hr, hi] at this
    rw [this, ← hr, ← hi]
    exact h.before
  · have := h.made_out (R := p.r) (C := p.c + p.word.size) (.inr (.inr (by omega)))
    rw [hr, hi] at this
    rw [this, ← hr, ← hi]
    exact h.behind
  · have hl : p.word.data.toList.length = p.word.size := by simp
    refine List.ext_getElem (by rw [seqF_len, hl]) fun j g1 g2 => ?_
    rw [seqF_get g1, hin j (by rw [← hl]; exact g2), u8_at g2]
/-- a word across is a longest sequence of a column of the board after the play -/
theorem PGood.cross_run {b : Brd} {p : Ply} {n : Nat} (h : PGood b p n) {i : Nat} (hi : i < p.word.size) : ∃ c u k : Nat, p.c + i = c ∧ c < n ∧ (u : Int) ≤ p.r ∧ p.r < u + k ∧ k = (crossW (b.view p) p.r (p.c + i) (p.word.data.toList.getD i 0)).length ∧
    Run (fun R => (b.made p).view p R c) n u k ∧ seqF (fun R => (b.made p).view p R c) u k = crossW (b.view p) p.r (p.c + i) (p.word.data.toList.getD i 0) := by
  have h1 := h.r0
  have h2 := h.r1
  have h3 := h.c0
  have h4 := h.c1
  obtain ⟨r, hr⟩ := Int.eq_ofNat_of_zero_le h1
  obtain ⟨c, hc⟩ := Int.eq_ofNat_of_zero_le (show 0 ≤ p.c + i by omega)
  have hmid : (b.made p).view p r c = p.word.data.toList.getD i 0 := by rw [← hr, ← hc]; exact h.made_in hi
  have hoff : ∀ R : Int, R ≠ r → (b.made p).view p R c = b.view p R c := fun R hR => h.made_out (.inl (by rw [hr]; exact hR))
  have hlet : fullC (p.word.data.toList.getD i 0) = true := by
    rw [u8_byte hi]
    exact letB_full ((List.all_eq_true.1 h.letters) _ (by rw [← bytes_get p.word i hi]; exact List.getElem_mem _))
  have hg : (b.flat p.down).Good n := h.good.flat p.down
  have hfull : ∀ R : Int, fullC (b.view p R c) = true → 0 ≤ R ∧ R < n := fun R hf => (hg.inB.1 (hg.full_in hf)).1
  obtain ⟨U, hU⟩ : ∃ U, U = upL (b.view p) c 16 ((r : Int) - 1) := ⟨_, rfl⟩
  obtain ⟨D, hD⟩ : ∃ D, D = dnL (b.view p) c 16 ((r : Int) + 1) := ⟨_, rfl⟩
  have hn := h.good.hi
  have hUat : ∀ j (hj : j < U.length), U[j] = b.view p ((r : Int) - 1 - j) c ∧ fullC (b.view p ((r : Int) - 1 - j) c) = true := fun j hj => by
    subst hU; exact upL_at 16 _ j hj
  have hDat : ∀ j (hj : j < D.length), D[j] = b.view p ((r : Int) + 1 + j) c ∧ fullC (b.view p ((r : Int) + 1 + j) c) = true := fun j hj => by
    subst hD; exact dnL_at 16 _ j hj
  have hUl : U.length ≤ r := by
    by_cases hz : U.length = 0
    · omega
    · have := hfull _ (hUat (U.length - 1) (by omega)).2
      omega
  have hDl : r + 1 + D.length ≤ n := by
    by_cases hz : D.length = 0
    · omega
    · have := hfull _ (hDat (D.length - 1) (by omega)).2
      omega
  have hUend : fullC (b.view p ((r : Int) - 1 - U.length) c) = false := by subst hU; exact upL_end 16 _ (by omega)
  have hDend : fullC (b.view p ((r : Int) + 1 + D.length) c) = false := by subst hD; exact dnL_end 16 _ (by omega)
  have hW : crossW (b.view p) p.r (p.c + i) (p.word.data.toList.getD i 0) = U.reverse ++ p.word.data.toList.getD i 0 :: D := by
    unfold crossW
    rw [hr, hc, ← hU, ← hD]
  have hWl : (U.reverse ++ p.word.data.toList.getD i 0 :: D).length = U.length + 1 + D.length := by simp; omega
  refine ⟨c, r - U.length, U.length + 1 + D.length, hc, by omega, by omega, by omega, by rw [hW, hWl], ⟨by omega, fun j hj => ?_, ?_, ?_⟩, ?_⟩
  · show fullC ((b.made p).view p _ c) = true
    rcases Nat.lt_trichotomy j U.length with hl | hl | hl
    · rw [hoff _ (by omega), show ((r - U.length : Nat) : Int) + j = (r : Int) - 1 - ((U.length - 1 - j : Nat) : Int) by omega]
      exact (hUat _ (by omega)).2
    · rw [show ((r - U.length : Nat) : Int) + j = (r : Int) by omega, hmid]
      exact hlet
    · rw [hoff _ (by omega), show ((r - U.length : Nat) : Int) + j = (r : Int) + 1 + ((j - U.length - 1 : Nat) : Int) by omega]
      exact (hDat _ (by omega)).2
  · show fullC ((b.made p).view p _ c) = false
    rw [hoff _ (by omega), show ((r - U.length : Nat) : Int) - 1 = (r : Int) - 1 - U.length by omega]
    exact hUend
  · show fullC ((b.made p).view p _ c) = false
    rw [hoff _ (by omega), show ((r - U.length : Nat) : Int) + ((U.length + 1 + D.length : Nat) : Int) = (r : Int) + 1 + D.length by omega]
    exact hDend
  · rw [hW]
    refine List.ext_getElem (by rw [seqF_len, hWl]) fun j g1 g2 => ?_
    rw [seqF_get g1]
    show (b.made p).view p _ c = _
    rw [seqF_len] at g1
    rcases Nat.lt_trichotomy j U.length with hl | hl | hl
    · rw [hoff _ (by omega), show ((r - U.length : Nat) : Int) + j = (r : Int) - 1 - ((U.length - 1 - j : Nat) : Int) by omega]
      rw [List.getElem_append_left (by simpa using hl), List.getElem_reverse]
      exact (hUat _ (by omega)).1.symm
    · rw [show ((r - U.length : Nat) : Int) + j = (r : Int) by omega, hmid, List.getElem_append_right (by simp; omega)]
      simp [hl]
    · rw [hoff _ (by omega), show ((r - U.length : Nat) : Int) + j = (r : Int) + 1 + ((j - U.length - 1 : Nat) : Int) by omega]
      rw [List.getElem_append_right (by simp; omega)]
      have e : j - U.reverse.length = (j - U.length - 1) + 1 := by simp; omega
      simp only [e, List.getElem_cons_succ]
      exact (hDat _ (by omega)).1.symm
theorem view_cross {b : Brd} {n : Nat} (h : b.Good n) (p : Ply) (r c : Int) : (b.flat (!p.down)).cell c r = b.view p r c := by
  rw [h.view]
  cases p.down
  · show b.turn.cell c r = _
    rw [h.turn_cell]
    rfl
  · rfl
/-- the words that a play forms are on the board after it -/
theorem PGood.formed_on {b : Brd} {p : Ply} {n : Nat} (h : PGood b p n) : ∀ x ∈ b.words p, x ∈ (b.made p).wordsOn := by
  intro x hx
  unfold Brd.words Brd.formed at hx
  obtain ⟨l, hl, rfl⟩ := List.mem_map.1 hx
  rw [h.made_good.words_on]
  rcases List.mem_cons.1 hl with rfl | hl
  · obtain ⟨r, i, hr, hi, hrn, hrun, hseq⟩ := h.main_run
    exact ⟨p.down, r, i, p.word.size, hrn, h.two, hrun, by
      show _ = mkB (lowL (seqF ((b.made p).view p r) i p.word.size))
      rw [hseq]⟩
  · unfold acrossL at hl
    obtain ⟨hl1, hl2⟩ := List.mem_filter.1 hl
    obtain ⟨i, hi, rfl⟩ := List.mem_map.1 hl1
    have hl2 := of_decide_eq_true hl2
    have hi2 := (freshL_lt hi).1
    obtain ⟨c, u, k, hc, hcn, hu, huk, hk, hrun, hseq⟩ := h.cross_run hi2
    have e : (fun R => (b.made p).view p R c) = ((b.made p).flat (!p.down)).cell c := by
      funext R
      exact (view_cross h.made_good p R c).symm
    rw [e] at hrun hseq
    exact ⟨!p.down, c, u, k, hcn, by omega, hrun, by rw [hseq]⟩
/-- a word on the board after a play was on the board before it, or the play forms it -/
theorem PGood.on_formed {b : Brd} {p : Ply} {n : Nat} (h : PGood b p n) : ∀ x ∈ (b.made p).wordsOn, x ∈ b.wordsOn ∨ x ∈ b.words p := by
  intro x hx
  obtain ⟨d, r, i, k, hr, hk, hrun, rfl⟩ := h.made_good.words_on.1 hx
  by_cases hd : d = p.down
  · subst hd
    have hv : ((b.made p).flat p.down).cell r = (b.made p).view p r := rfl
    rw [hv] at hrun ⊢
    by_cases hnew : ∃ j : Nat, j < k ∧ (r : Int) = p.r ∧ p.c ≤ ((i + j : Nat) : Int) ∧ ((i + j : Nat) : Int) < p.c + p.word.size
    · obtain ⟨j, hj, hr2, h1, h2⟩ := hnew
      obtain ⟨r', i', hr', hi', hrn, hrun', hseq'⟩ := h.main_run
      have er : r = r' := by omega
      subst er
      obtain ⟨e1, e2⟩ := hrun.same hrun' (x := i + j) (by omega) (by omega) (by omega) (by omega)
      subst e1 e2
      refine .inr ?_
      unfold Brd.words Brd.formed
      rw [hseq']
      exact List.mem_cons_self
    · have hsame : ∀ j : Nat, j < k → (b.made p).view p r ((i : Int) + j) = b.view p r ((i : Int) + j) := fun j hj => h.made_out (by
        by_cases q1 : (r : Int) = p.r
        · refine .inr ?_
          by_cases q2 : ((i : Int) + j) < p.c
          · exact .inl q2
          · refine .inr ?_
            by_cases q3 : p.c + p.word.size ≤ (i : Int) + j
            · exact q3
            · exact absurd ⟨j, hj, q1, by omega, by omega⟩ hnew
        · exact .inl q1)
      have hle : ∀ C : Int, fullC ((b.made p).view p r C) = false → fullC (b.view p r C) = false := fun C hf => by
        by_cases q1 : (r : Int) ≠ p.r ∨ C < p.c ∨ p.c + p.word.size ≤ C
        · rw [← h.made_out q1]; exact hf
        · exfalso
          obtain ⟨t, ht⟩ : ∃ t : Nat, C = p.c + t := ⟨(C - p.c).toNat, by omega⟩
          have hR : (r : Int) = p.r := by omega
          have htl : t < p.word.size := by omega
          rw [hR, ht, h.made_in htl, u8_byte htl, letB_full ((List.all_eq_true.1 h.letters) _ (by rw [← bytes_get p.word t htl]; exact List.getElem_mem _))] at hf
          cases hf
      refine .inl (h.good.words_on.2 ⟨p.down, r, i, k, hr, hk, ⟨hrun.len, fun j hj => ?_, ?_, ?_⟩, ?_⟩)
      · have := hrun.full j hj
        rw [hsame j hj] at this
        exact this
      · exact hle _ hrun.before
      · exact hle _ hrun.behind
      · congr 2
        unfold seqF
        refine List.map_congr_left fun j hj => ?_
        exact hsame j (List.mem_range.1 hj)
  · have hd2 : d = !p.down := by cases d <;> cases hp : p.down <;> simp_all
    subst hd2
    have hvm : ((b.made p).flat (!p.down)).cell r = fun R => (b.made p).view p R r := by funext R; exact view_cross h.made_good p R r
    have hvb : (b.flat (!p.down)).cell r = fun R => b.view p R r := by funext R; exact view_cross h.good p R r
    rw [hvm] at hrun ⊢
    by_cases hnew : ∃ j t : Nat, j < k ∧ t < p.word.size ∧ ((i + j : Nat) : Int) = p.r ∧ (r : Int) = p.c + t ∧ b.view p p.r (p.c + t) = 46
    · obtain ⟨j, t, hj, ht, hr2, hc2, h46⟩ := hnew
      obtain ⟨c, u, k', hc, hcn, hu, huk, hk', hrun', hseq'⟩ := h.cross_run ht
      have ec : r = c := by omega
      subst ec
      obtain ⟨e1, e2⟩ := hrun.same hrun' (x := i + j) (by omega) (by omega) (by omega) (by omega)
      subst e1 e2
      refine .inr ?_
      unfold Brd.words Brd.formed
      rw [hseq']
      refine List.mem_map.2 ⟨_, List.mem_cons_of_mem _ ?_, rfl⟩
      unfold acrossL
      refine List.mem_filter.2 ⟨List.mem_map.2 ⟨t, ?_, rfl⟩, decide_eq_true (by omega)⟩
      unfold Brd.fresh freshL
      exact List.mem_filter.2 ⟨List.mem_range.2 ht, by rw [h46]; rfl⟩
    · have hsame2 : ∀ R : Int, (∀ t : Nat, t < p.word.size → R = p.r → (r : Int) = p.c + t → b.view p p.r (p.c + t) ≠ 46) → (b.made p).view p R r = b.view p R r := fun R hR => by
        by_cases q1 : R ≠ p.r ∨ (r : Int) < p.c ∨ p.c + p.word.size ≤ r
        · exact h.made_out q1
        · obtain ⟨t, ht⟩ : ∃ t : Nat, (r : Int) = p.c + t := ⟨((r : Int) - p.c).toNat, by omega⟩
          have htl : t < p.word.size := by omega
          have hRr : R = p.r := by omega
          have hf := List.all_eq_true.1 h.fit t (List.mem_range.2 htl)
          rw [Bool.or_eq_true] at hf
          have h46 := hR t htl hRr ht
          have h2 := beq_iff_eq.1 (hf.resolve_left (by simpa using h46))
          rw [hRr, ht, h.made_in htl, h2]
      have hle : ∀ R : Int, fullC ((b.made p).view p R r) = false → fullC (b.view p R r) = false := fun R hf => by
        rw [← hsame2 R fun t ht h1 h2 _ => ?_]
        · exact hf
        · rw [h1, h2, h.made_in ht, u8_byte ht, letB_full ((List.all_eq_true.1 h.letters) _ (by rw [← bytes_get p.word t ht]; exact List.getElem_mem _))] at hf
          cases hf
      have hsame : ∀ j : Nat, j < k → (b.made p).view p ((i : Int) + j) r = b.view p ((i : Int) + j) r := fun j hj => hsame2 _ fun t ht h1 h2 h46 => hnew ⟨j, t, hj, ht, by omega, h2, h46⟩
      refine .inl (h.good.words_on.2 ⟨!p.down, r, i, k, hr, hk, ?_, ?_⟩)
      · rw [hvb]
        refine ⟨hrun.len, fun j hj => ?_, ?_, ?_⟩
        · have := hrun.full j hj
          rw [hsame j hj] at this
          exact this
        · exact hle _ hrun.before
        · exact hle _ hrun.behind
      · rw [hvb]
        congr 2
        unfold seqF
        refine List.map_congr_left fun j hj => ?_
        exact hsame j (List.mem_range.1 hj)
end Go.Proofs.YtjdcdhhbgijaoaaGreatDoor
namespace Go.Proofs.YtjdcdhhbgijaoaaGreatDoor
open Go.ChangeShapes Go.WideShapes Go.ChangeAt Go.RowKit Go.Sort

def lowB (s : ByteArray) : ByteArray := mkB (lowL s.data.toList)
/-- of a row's parts those of two letters and more, in small letters -/
def keepB (ps : List ByteArray) : List ByteArray := (ps.filter fun s => decide (2 ≤ s.size)).map lowB
def partsB (row : ByteArray) : List ByteArray := (splitL 46 row.data.toList).map mkB
def rowsW (s : ByteArray) (n r : Nat) : List ByteArray := (List.range r).flatMap fun k => keepB (partsB (lineB s n k))
theorem keepB_yes {ps : List ByteArray} {j : Nat} (h : j < ps.length) (h2 : 2 ≤ ps[j].size) : keepB (ps.take (j + 1)) = keepB (ps.take j) ++ [lowB ps[j]] := by
  unfold keepB
  rw [List.take_succ_eq_append_getElem h, List.filter_append, List.map_append]
  simp [h2]
theorem keepB_no {ps : List ByteArray} {j : Nat} (h : j < ps.length) (h2 : ¬ 2 ≤ ps[j].size) : keepB (ps.take (j + 1)) = keepB (ps.take j) := by
  unfold keepB
  rw [List.take_succ_eq_append_getElem h, List.filter_append, List.map_append]
  simp [h2]
theorem keepB_len (ps : List ByteArray) : (keepB ps).length ≤ ps.length := by
  unfold keepB
  rw [List.length_map]
  exact List.length_filter_le _ _
theorem rowsW_next (s : ByteArray) (n r : Nat) : rowsW s n (r + 1) = rowsW s n r ++ keepB (partsB (lineB s n r)) := by
  unfold rowsW
  rw [List.range_succ, List.flatMap_append]
  simp
theorem lineB_list (s : ByteArray) (n k : Nat) : (lineB s n k).data.toList = (s.data.toList.drop (k * n)).take n := by
  unfold lineB
  rw [ByteArray.data_extract, Array.toList_extract, List.extract_eq_take_drop]
  congr 1
  rw [Nat.succ_mul]
  omega
theorem lineB_size {s : ByteArray} {n k : Nat} (hs : s.size = n * n) (hk : k < n) : (lineB s n k).size = n := by
  have e : (lineB s n k).data.toList.length = (lineB s n k).size := by simp
  have h1 : (k + 1) * n ≤ n * n := Nat.mul_le_mul_right n hk
  have h2 : s.data.toList.length = s.size := by simp
  rw [← e, lineB_list, List.length_take, List.length_drop, h2, hs]
  rw [Nat.succ_mul] at h1
  omega
theorem partsB_len (row : ByteArray) : (partsB row).length ≤ row.size + 1 := by
  unfold partsB
  rw [List.length_map, splitL_len]
  have := List.count_le_length (a := (46 : UInt8)) (l := row.data.toList)
  have e2 : row.data.toList.length = row.size := Array.length_toList
  omega
theorem rowsW_len {s : ByteArray} {n : Nat} (hs : s.size = n * n) (hn : n ≤ 15) : ∀ r : Nat, r ≤ n → (rowsW s n r).length ≤ 16 * r
  | 0, _ => Nat.zero_le _
  | r + 1, h => by
    have ih := rowsW_len hs hn r (by omega)
    have h1 := partsB_len (lineB s n r)
    rw [lineB_size hs (by omega)] at h1
    have h2 := keepB_len (partsB (lineB s n r))
    rw [rowsW_next, List.length_append]
    omega
theorem Brd.Good.line_list {b : Brd} {n : Nat} (h : b.Good n) {r : Nat} (hr : r < n) : (lineB b.cells n r).data.toList = lineL (b.cell r) n := by
  have hl : (lineB b.cells n r).data.toList.length = n := by
    have e : (lineB b.cells n r).data.toList.length = (lineB b.cells n r).size := by simp
    rw [e, lineB_size h.cells hr]
  refine List.ext_getElem (by rw [hl]; simp [lineL]) fun c h1 h2 => ?_
  rw [hl] at h1
  have hg := h.get hr h1
  have hc := h.cell_in hr h1 rfl hg
  have e1 : (lineL (b.cell r) n)[c]'h2 = b.cell r c := by simp [lineL]
  rw [e1, hc]
  simp only [lineB_list, List.getElem_take, List.getElem_drop]
  exact (bytes_get b.cells _ hg).symm
theorem keep_parts (row : ByteArray) : keepB (partsB row) = (((splitL 46 row.data.toList).filter fun w => decide (2 ≤ w.length)).map lowL).map mkB := by
  unfold keepB partsB
  rw [List.filter_map, List.map_map, List.map_map]
  have e1 : ((fun s : ByteArray => decide (2 ≤ s.size)) ∘ mkB) = fun w : List UInt8 => decide (2 ≤ w.length) := by
    funext w
    simp only [Function.comp_apply, mkB_size]
  have e2 : (lowB ∘ mkB) = (mkB ∘ lowL) := by
    funext w
    simp only [Function.comp_apply, lowB, mkB_data]
  rw [e1, e2]
theorem Brd.Good.row_words_eq {b : Brd} {n : Nat} (h : b.Good n) : (b.rowWords n).map mkB = rowsW b.cells n n := by
  unfold Brd.rowWords rowsW
  rw [List.map_flatMap]
  have : ∀ m : Nat, m ≤ n → ((List.range m).flatMap fun r : Nat => (((splitL 46 (lineL (b.cell r) n)).filter fun w => decide (2 ≤ w.length)).map lowL).map mkB) = (List.range m).flatMap fun k => keepB (partsB (lineB b.cells n k)) := by
    intro m
    induction m with
    | zero => intro _; rfl
    | succ m ih =>
      intro hm
      rw [List.range_succ, List.flatMap_append, List.flatMap_append, ih (by omega)]
      congr 1
      simp only [List.flatMap_cons, List.flatMap_nil, List.append_nil]
      rw [keep_parts, h.line_list (by omega)]
  exact this n (Nat.le_refl _)
theorem Brd.Good.words_rows {b : Brd} {n : Nat} (h : b.Good n) : b.wordsOn = rowsW b.cells n n ++ rowsW b.turn.cells n n := by
  have e : b.size.toNat = n := by rw [h.size]; simp
  unfold Brd.wordsOn
  rw [e, List.map_append, h.row_words_eq, h.turn.row_words_eq]
/-- a row's parts are short and of ASCII -/
theorem split_mem {c : UInt8} {l w : List UInt8} (h : w ∈ splitL c l) : ∃ A B, l = A ++ (w ++ B) := by
  cases e : splitL c l with
  | nil => exact absurd e (splitL_ne _ _)
  | cons x xs =>
    obtain ⟨⟨B, h3, _⟩, h5⟩ := split_back _ e
    rw [e] at h
    rcases List.mem_cons.1 h with rfl | h
    · exact ⟨[], B, h3⟩
    · obtain ⟨A, B2, e1, _⟩ := h5 w h
      exact ⟨A ++ [c], B2, by rw [e1, List.append_assoc]; rfl⟩
theorem Brd.Good.part_ok {b : Brd} {n : Nat} (h : b.Good n) {r : Nat} (hr : r < n) {x : ByteArray} (hx : x ∈ partsB (lineB b.cells n r)) : x.size ≤ 15 ∧ ∀ c ∈ x.data.toList, c.toNat < 128 := by
  unfold partsB at hx
  obtain ⟨w, hw, rfl⟩ := List.mem_map.1 hx
  obtain ⟨A, B, e⟩ := split_mem hw
  have hl : (lineB b.cells n r).data.toList.length = n := by
    have e : (lineB b.cells n r).data.toList.length = (lineB b.cells n r).size := by simp
    rw [e, lineB_size h.cells hr]
  have hn := h.hi
  refine ⟨?_, fun c hc => ?_⟩
  · rw [mkB_size]
    rw [e, List.length_append, List.length_append] at hl
    omega
  · rw [mkB_data] at hc
    have hm : c ∈ (lineB b.cells n r).data.toList := by rw [e]; exact List.mem_append_right _ (List.mem_append_left _ hc)
    rw [lineB_list] at hm
    have hm2 := List.mem_of_mem_drop (List.mem_of_mem_take hm)
    have h3 := List.all_eq_true.1 h.okC c hm2
    unfold cellB smallB capB at h3
    simp only [Bool.or_eq_true, Bool.and_eq_true, decide_eq_true_eq, beq_iff_eq] at h3
    omega
end Go.Proofs.YtjdcdhhbgijaoaaGreatDoor
namespace Go.Proofs.YtjdcdhhbgijaoaaGreatDoor
open Go.ChangeShapes Go.WideShapes Go.ChangeAt Go.RowKit Go.Sort

/-- the variable that the library's searches read -/
def EnvM (w : World) : Prop := ∃ m : Int, w.cell? ⟨0, 0, none⟩ = some (.int .i64 m)
theorem EnvM.kept {w w' : World} (h : EnvM w) (hb : Below w.heap.size w w') : EnvM w' := by
  obtain ⟨m, hm⟩ := h
  exact ⟨m, cell_kept hm hb⟩
theorem own_new_texts (w : World) (xs : List ByteArray) (t : TypeId) (hl : xs.length ≤ 1099511627776) : (w.alloc (.cells (xs.map Value.string).toArray t)).ownsRow w.heap.size t 1 (.slice (some ⟨w.heap.size, 0, none⟩) xs.length xs.length) xs.length (xs.flatMap Tx.enc) := by
  have e : xs.flatMap Tx.enc = xs.map Value.string := by
    clear hl
    induction xs with
    | nil => rfl
    | cons x xs ih => rw [List.flatMap_cons, ih]; rfl
  rw [e]
  exact ⟨by simp, .inr ⟨w.heap.size, xs.length, (xs.map Value.string).toArray, rfl, Nat.le_refl _, heap_alloc_new w _, Nat.le_refl _, by unfold maxLen; omega, by simp, by rw [Nat.mul_one]; simp [List.take_of_length_le]⟩⟩
/-- The library's Split at a blank, as the reference's parts. -/
theorem splitM_any (s : ByteArray) (c : UInt8) (w : World) (he : EnvM w) (hs : s.size ≤ 1048576) : Calls Tryz.prog 131 #[.string s, .string ⟨#[c]⟩] w (TextsPost w ((splitL c s.data.toList).map mkB)) := by
  obtain ⟨m, hm⟩ := he
  refine (Any.strings_Split { Tryz.laysM146 with } Tryz.laysM146.i9 s ⟨#[c]⟩ m w (by omega) hm (Nat.le_refl _)).mono ?_
  rintro e w' ⟨rfl, rfl⟩
  have hcnt : Lib.countB s ⟨#[c]⟩ + 1 = ((splitL c s.data.toList).map mkB).length := by
    rw [List.length_map, splitL_len, ← Lib.count_one]
  have hx : Lib.splitB ⟨#[c]⟩ 0 (Lib.countB s ⟨#[c]⟩) s = (splitL c s.data.toList).map mkB := by
    rw [← split_tie c _ s rfl, List.map_map]
    rw [show (mkB ∘ fun x : ByteArray => x.data.toList) = id from funext mkB_of, List.map_id]
  have hl : ((splitL c s.data.toList).map mkB).length ≤ 1099511627776 := by
    rw [List.length_map, splitL_len]
    have := List.count_le_length (a := c) (l := s.data.toList)
    have e2 : s.data.toList.length = s.size := Array.length_toList
    omega
  rw [hcnt, hx]
  exact ⟨_, _, rfl, own_new_texts w _ _ hl, (Below.refl _ _).alloc (Nat.le_refl _) _⟩
end Go.Proofs.YtjdcdhhbgijaoaaGreatDoor
