/- The plain law of FnTables: the points of a table are two for each result, the spreads add up to 0, and the ratings after all results are those after one result after the other. No program in sight. -/
import Derived.Test.YtpodkgfapbcmlaaStP
import Derived.Test.YtpodkgfapbcmlaaRtP
namespace Go.Proofs.Ytpodkgfapbcmlaa
open Go.ChangeShapes Go.WideShapes Go.ChangeAt Go.RowKit Go.Sort

section
variable {α : Type}
def sumI (f : α → Int) : List α → Int
  | [] => 0
  | x :: xs => f x + sumI f xs
theorem sumI_app (f : α → Int) (a b : List α) : sumI f (a ++ b) = sumI f a + sumI f b := by
  induction a with
  | nil => simp [sumI]
  | cons x xs ih => simp [sumI, ih]; omega
theorem sumI_take (f : α → Int) {l : List α} {k : Nat} (h : k < l.length) : sumI f (l.take (k + 1)) = sumI f (l.take k) + f l[k] := by
  rw [List.take_succ_eq_append_getElem h, sumI_app]
  simp [sumI]
theorem sumI_set (f : α → Int) {l : List α} {i : Nat} (hi : i < l.length) (y : α) : sumI f (l.set i y) = sumI f l - f l[i] + f y := by
  induction l generalizing i with
  | nil => simp at hi
  | cons x xs ih =>
    cases i with
    | zero => simp [sumI]; omega
    | succ i => simp [sumI]; rw [ih (by simpa using hi)]; omega
theorem sumI_perm (f : α → Int) {a b : List α} (h : a.Perm b) : sumI f a = sumI f b := by
  induction h with
  | nil => rfl
  | cons x _ ih => simp [sumI, ih]
  | swap x y l => simp [sumI]; omega
  | trans _ _ ih1 ih2 => exact ih1.trans ih2
theorem sumI_bd (f : α → Int) (b : Int) {l : List α} (h : ∀ x ∈ l, -b ≤ f x ∧ f x ≤ b) : -(b * l.length) ≤ sumI f l ∧ sumI f l ≤ b * l.length := by
  induction l with
  | nil => simp [sumI]
  | cons x xs ih =>
    have h1 := h x (by simp)
    have h2 := ih (fun y hy => h y (by simp [hy]))
    have e : b * ((x :: xs).length : Int) = b * xs.length + b := by simp [Int.mul_add]
    rw [e]
    simp only [sumI]
    omega
variable {lt : α → α → Bool}
theorem insRev_perm (x : α) : ∀ S : List α, (insRev lt x S).Perm (x :: S)
  | [] => .refl _
  | y :: ys => by
    unfold insRev
    split
    · exact ((insRev_perm x ys).cons y).trans (.swap x y ys)
    · exact .refl _
theorem insR_perm (S : List α) (x : α) : (insR lt S x).Perm (S ++ [x]) := by
  unfold insR
  refine (List.reverse_perm _).trans ((insRev_perm x S.reverse).trans ?_)
  exact ((List.reverse_perm S).cons x).trans (List.perm_append_comm (l₁ := [x]))
theorem foldl_perm : ∀ (L S : List α), (L.foldl (insR lt) S).Perm (S ++ L)
  | [], S => by simp
  | x :: xs, S => by
    rw [List.foldl_cons]
    refine (foldl_perm xs (insR lt S x)).trans ?_
    refine ((insR_perm S x).append_right xs).trans ?_
    simp
end
theorem table_perm (ms : List Mem) (rs : List Res) : (tableOf ms rs).Perm (ms.map fun m => lineOf m.name rs) := by
  have := foldl_perm (lt := stdBefore) (ms.map fun m => lineOf m.name rs) []
  simpa [tableOf] using this
theorem table_bd {ms : List Mem} {rs : List Res} (h : rs.all resOk = true) : ∀ s ∈ tableOf ms rs, StdBd rs.length s := by
  intro s hs
  obtain ⟨m, _, rfl⟩ := List.mem_map.1 ((table_perm ms rs).mem_iff.1 hs)
  have := lineOf_bd (nm := m.name) h rs.length (Nat.le_refl _)
  rwa [List.take_length] at this
theorem known_a {ms : List Mem} {r : Res} (hk : known ms r = true) : ∃ i : Nat, findMem r.a ms = i ∧ i < ms.length := by
  unfold known at hk
  simp only [Bool.and_eq_true, decide_eq_true_eq] at hk
  rcases findMem_bound r.a ms with h | ⟨h1, h2⟩
  · omega
  · exact ⟨(findMem r.a ms).toNat, by omega, by omega⟩
theorem linePts_two (x y : Int) : linePts x y + linePts y x = 2 := by
  unfold linePts
  repeat' split
  all_goals omega
theorem lines_sum {ms : List Mem} {rs : List Res} (hc : clubOk ms = true) (hok : rs.all resOk = true) (hk : rs.all (known ms) = true) : ∀ k, k ≤ rs.length →
    sumI (·.points) (ms.map fun m => lineOf m.name (rs.take k)) = 2 * k ∧ sumI (·.spread) (ms.map fun m => lineOf m.name (rs.take k)) = 0 := by
  intro k
  induction k with
  | zero =>
    intro _
    have : ∀ l : List Mem, sumI (·.points) (l.map fun m => lineOf m.name (rs.take 0)) = 0 ∧ sumI (·.spread) (l.map fun m => lineOf m.name (rs.take 0)) = 0 := by
      intro l
      induction l with
      | nil => exact ⟨rfl, rfl⟩
      | cons x xs ih => simp [sumI, lineOf] at ih ⊢; exact ih
    simpa using this ms
  | succ k ih =>
    intro hk1
    have hlt : k < rs.length := by omega
    obtain ⟨i1, i2⟩ := ih (by omega)
    have hr1 : resOk rs[k] = true := List.all_eq_true.1 hok _ (List.getElem_mem hlt)
    have hr2 : known ms rs[k] = true := List.all_eq_true.1 hk _ (List.getElem_mem hlt)
    have he : (ms.map fun m => lineOf m.name (rs.take (k + 1))) = ms.map fun m => lineAdd m.name (lineOf m.name (rs.take k)) rs[k] :=
      List.map_congr_left fun m _ => lineOf_succ hlt
    rw [he]
    cases hb : rs[k].b.toList.isEmpty with
    | true =>
      obtain ⟨i, h1, hi⟩ := known_a hr2
      rw [← map_bye hc hb hi h1 (fun m => lineOf m.name (rs.take k)), sumI_set _ (by simpa using hi), sumI_set _ (by simpa using hi), i1, i2]
      simp [byed]
      omega
    | false =>
      obtain ⟨i, j, h1, hi, h2, hj⟩ := known_game hr2 hb
      have hne := ne_of_names hi hj h1 h2 (scores_game hr1 hb).2.2.2.2
      rw [← map_game hc hb hi hj h1 h2 hne (fun m => lineOf m.name (rs.take k)), sumI_set _ (by simpa using hj), sumI_set _ (by simpa using hi), sumI_set _ (by simpa using hj), sumI_set _ (by simpa using hi), i1, i2,
        List.getElem_set_ne hne, List.getElem_map, List.getElem_map]
      have e1 := linePts_two rs[k].sa rs[k].sb
      have e2 := scored_pts rs[k].sa rs[k].sb
      have e3 := scored_pts rs[k].sb rs[k].sa
      simp only [scored]
      omega
theorem table_sum {ms : List Mem} {rs : List Res} (h : codeOf ms rs = 0) : sumI (·.points) (tableOf ms rs) = 2 * rs.length ∧ sumI (·.spread) (tableOf ms rs) = 0 := by
  obtain ⟨h1, h2, h3, _⟩ := code_zero h
  have := lines_sum h1 h2 h3 rs.length (Nat.le_refl _)
  rw [List.take_length] at this
  exact ⟨(sumI_perm _ (table_perm ms rs)).trans this.1, (sumI_perm _ (table_perm ms rs)).trans this.2⟩
/-- One result after the other. -/
theorem rates_step {ms : List Mem} {rs : List Res} (h : codeOf ms rs = 0) : ∀ k (hk : k < rs.length), codeOf (ratesAll ms (rs.take k)) [rs[k]] = 0 := by
  obtain ⟨h1, h2, h3, _⟩ := code_zero h
  have step : ∀ k (hk : k < rs.length), clubOk (ratesAll ms (rs.take k)) = true → (ratesAll ms (rs.take k)).map (·.name) = ms.map (·.name) → codeOf (ratesAll ms (rs.take k)) [rs[k]] = 0 := by
    intro k hk hc hn
    refine codeOf_one hc (List.all_eq_true.1 h2 _ (List.getElem_mem hk)) ?_
    rw [known_names hn]
    exact List.all_eq_true.1 h3 _ (List.getElem_mem hk)
  have all : ∀ k, k ≤ rs.length → clubOk (ratesAll ms (rs.take k)) = true ∧ (ratesAll ms (rs.take k)).map (·.name) = ms.map (·.name) := by
    intro k
    induction k with
    | zero => intro _; exact ⟨by simpa [ratesAll] using h1, by simp [ratesAll]⟩
    | succ k ih =>
      intro hk
      obtain ⟨c, n⟩ := ih (by omega)
      rw [ratesAll_succ (by omega)]
      exact ⟨rate_club (step k (by omega) c n), by rw [rateOf_names, n]⟩
  exact fun k hk => step k hk (all k (by omega)).1 (all k (by omega)).2
theorem rates_next {ms : List Mem} {rs : List Res} (h : codeOf ms rs = 0) {k : Nat} (hk : k < rs.length) : rateResult (ratesAll ms (rs.take k)) rs[k] = (ratesAll ms (rs.take (k + 1)), (rateOf (ratesAll ms (rs.take k)) rs[k]).2, 0) := by
  rw [rateResult_ok (rates_step h k hk), ratesAll_succ hk]
theorem ratesAll_len : ∀ (rs : List Res) (ms : List Mem), (ratesAll ms rs).length = ms.length
  | [], _ => rfl
  | r :: rs, ms => (ratesAll_len rs (rateOf ms r).1).trans (rateOf_len ms r)
end Go.Proofs.Ytpodkgfapbcmlaa
