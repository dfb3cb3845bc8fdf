/- The plain law of FnRatings: a result written the other way round gives the same club and the opposite change; the sum of the ratings stays; a member that was added is found with its rating. No program in sight. -/
import Derived.Test.YtpodkgfapbcmlaaAddPost
import Derived.Test.YtpodkgfapbcmlaaRate
namespace Go.Proofs.Ytpodkgfapbcmlaa
open Go.ChangeShapes Go.WideShapes Go.ChangeAt Go.RowKit Go.Sort

theorem expect_sum (a b : Int) : expect a b + expect b a = 4000 := by
  unfold expect maxI minI
  repeat' split
  all_goals omega
theorem reached_swap (x y : Int) : reached y x = 4000 - reached x y := by
  unfold reached
  repeat' split
  all_goals omega
theorem gain_swap (a b sa sb : Int) (ha0 : 0 ≤ a) (ha1 : a ≤ 4000) (hb0 : 0 ≤ b) (hb1 : b ≤ 4000) : gain b a sb sa = - gain a b sa sb := by
  have e : expect b a = 4000 - expect a b := by have := expect_sum a b; omega
  have h1 := reached_bd sa sb
  unfold gain
  rw [reached_swap sa sb, e]
  generalize expect a b = E
  generalize reached sa sb = R at *
  unfold minI
  repeat' split
  all_goals omega
def ratSum : List Mem → Int
  | [] => 0
  | m :: ms => m.rating + ratSum ms
theorem ratSum_app (a b : List Mem) : ratSum (a ++ b) = ratSum a + ratSum b := by
  induction a with
  | nil => simp [ratSum]
  | cons x xs ih => simp [ratSum, ih]; omega
theorem ratSum_take {ms : List Mem} {k : Nat} (h : k < ms.length) : ratSum (ms.take (k + 1)) = ratSum (ms.take k) + ms[k].rating := by
  rw [List.take_succ_eq_append_getElem h, ratSum_app]
  simp [ratSum]
theorem ratSum_set {l : List Mem} {i : Nat} (hi : i < l.length) (m : Mem) : ratSum (l.set i m) = ratSum l - l[i].rating + m.rating := by
  induction l generalizing i with
  | nil => simp at hi
  | cons x xs ih =>
    cases i with
    | zero => simp [ratSum]; omega
    | succ i => simp [ratSum]; rw [ih (by simpa using hi)]; omega
theorem ratSum_bd {l : List Mem} (h : RatingsOk l) : 0 ≤ ratSum l ∧ ratSum l ≤ 4000 * l.length := by
  induction l with
  | nil => simp [ratSum]
  | cons x xs ih =>
    have h1 := h x (by simp)
    have h2 := ih (fun m hm => h m (by simp [hm]))
    simp only [ratSum, List.length_cons]
    omega
theorem pair_sum {ms : List Mem} {i j : Nat} (hi : i < ms.length) (hj : j < ms.length) (hne : i ≠ j) (x : Int) : ratSum ((ms.set i ⟨ms[i].name, ms[i].rating + x⟩).set j ⟨ms[j].name, ms[j].rating - x⟩) = ratSum ms := by
  rw [ratSum_set (by simpa using hj), ratSum_set hi, List.getElem_set_ne hne]
  simp only
  omega
theorem pair_swap {ms : List Mem} {i j : Nat} (hi : i < ms.length) (hj : j < ms.length) (hne : i ≠ j) (x : Int) :
    (ms.set j ⟨ms[j].name, ms[j].rating + -x⟩).set i ⟨ms[i].name, ms[i].rating - -x⟩ = (ms.set i ⟨ms[i].name, ms[i].rating + x⟩).set j ⟨ms[j].name, ms[j].rating - x⟩ := by
  rw [List.set_comm _ _ hne]
  have e1 : ms[i].rating - -x = ms[i].rating + x := by omega
  have e2 : ms[j].rating + -x = ms[j].rating - x := by omega
  rw [e1, e2]
/-- the result, written the other way round -/
def Res.flip (r : Res) : Res := ⟨r.b, r.a, r.sb, r.sa⟩
theorem name_full {l : List UInt8} (h : isNameL l = true) : 1 ≤ l.length := by
  simp only [isNameL, Bool.and_eq_true, decide_eq_true_eq] at h
  exact h.1.1.1
theorem flip_ok {r : Res} (h : resOk r = true) (hb : r.b.toList.isEmpty = false) : resOk r.flip = true ∧ r.flip.b.toList.isEmpty = false := by
  rw [resOk_game hb] at h
  simp only [Bool.and_eq_true] at h
  obtain ⟨⟨⟨⟨h1, h2⟩, h3⟩, h4⟩, h5⟩ := h
  have h6 : r.flip.b.toList.isEmpty = false := ba_full (by have := name_full h1; simp at this; show ¬ r.a.size < 1; omega)
  refine ⟨?_, h6⟩
  rw [resOk_game h6]
  have h7 : (!(r.b.toList == r.a.toList)) = true := by
    rw [Bool.beq_comm]; exact h3
  show (isNameL r.b.data.toList && isNameL r.a.data.toList && !(r.b.toList == r.a.toList) && withinB r.sb (-2000) 2000 && withinB r.sa (-2000) 2000) = true
  rw [h1, h2, h7, h4, h5]
  rfl
theorem flip_known {ms : List Mem} {r : Res} (hk : known ms r = true) (hb : r.b.toList.isEmpty = false) : known ms r.flip = true := by
  unfold known at hk ⊢
  rw [hb] at hk
  simp only [Bool.and_eq_true, decide_eq_true_eq, Bool.false_or] at hk
  show (decide (0 ≤ findMem r.b ms) && (r.a.toList.isEmpty || decide (0 ≤ findMem r.a ms))) = true
  simp [hk.1, hk.2]
theorem codeOf_one {ms : List Mem} {r : Res} (h1 : clubOk ms = true) (h2 : resOk r = true) (h3 : known ms r = true) : codeOf ms [r] = 0 := by
  unfold codeOf
  simp [h1, h2, h3]
theorem ok_one {ms : List Mem} {r : Res} (h : codeOf ms [r] = 0) : clubOk ms = true ∧ resOk r = true ∧ known ms r = true := by
  obtain ⟨h1, h2, h3, _⟩ := code_zero h
  exact ⟨h1, by simpa using h2, by simpa using h3⟩
/-- What a result of members changes, and what the result the other way round changes. -/
theorem rate_swap {ms : List Mem} {r : Res} (h : codeOf ms [r] = 0) (hb : r.b.toList.isEmpty = false) :
    codeOf ms [r.flip] = 0 ∧ (rateOf ms r.flip).1 = (rateOf ms r).1 ∧ (rateOf ms r.flip).2 = - (rateOf ms r).2 ∧ ratSum (rateOf ms r).1 = ratSum ms := by
  obtain ⟨h1, h2, h3⟩ := ok_one h
  obtain ⟨f1, f2⟩ := flip_ok h2 hb
  have f3 := flip_known h3 hb
  obtain ⟨i, j, hi1, hi2, hj1, hj2⟩ := known_game h3 hb
  have hne := ne_of_names hi2 hj2 hi1 hj1 (scores_game h2 hb).2.2.2.2
  have hr := ratings_of h1
  have a1 := hr.at hi2
  have a2 := hr.at hj2
  have e1 := rateOf_game hb hi2 hj2 hi1 hj1 hne
  have e2 := rateOf_game f2 hj2 hi2 (show findMem r.flip.a ms = j from hj1) (show findMem r.flip.b ms = i from hi1) (Ne.symm hne)
  refine ⟨codeOf_one h1 f1 f3, ?_, ?_, ?_⟩
  · rw [e1, e2]
    have := gain_swap ms[i].rating ms[j].rating r.sa r.sb a1.1 a1.2 a2.1 a2.2
    simp only [Res.flip, this]
    exact pair_swap hi2 hj2 hne _
  · rw [e1, e2]
    exact gain_swap ms[i].rating ms[j].rating r.sa r.sb a1.1 a1.2 a2.1 a2.2
  · rw [e1]
    exact pair_sum hi2 hj2 hne _
/-- a club that is valid, as a list -/
theorem club_iff (l : List Mem) : clubOk l = true ↔ l.length ≤ 12 ∧ (∀ x ∈ l, memOk x = true) ∧ l.Pairwise Mem.lt := by
  constructor
  · intro h
    have h0 := h
    simp only [clubOk, Bool.and_eq_true, decide_eq_true_eq, List.all_eq_true, List.mem_range] at h0
    refine ⟨h0.1, fun x hx => ?_, ?_⟩
    · obtain ⟨i, hi, rfl⟩ := List.getElem_of_mem hx
      have := h0.2 i hi
      cases i with
      | zero => rwa [okAt_zero hi] at this
      | succ i => rw [okAt_succ hi (by omega), Bool.and_eq_true] at this; exact this.1
    · rw [List.pairwise_iff_getElem]
      intro i j hi hj hij
      exact sorted_of h hij hj
  · rintro ⟨h1, h2, h3⟩
    simp only [clubOk, Bool.and_eq_true, decide_eq_true_eq, List.all_eq_true, List.mem_range]
    refine ⟨h1, fun i hi => ?_⟩
    cases i with
    | zero => rw [okAt_zero hi]; exact h2 _ (List.getElem_mem hi)
    | succ i =>
      rw [okAt_succ hi (by omega), Bool.and_eq_true]
      refine ⟨h2 _ (List.getElem_mem hi), ?_⟩
      rw [bytesLess_eq, decide_eq_true_eq]
      exact List.pairwise_iff_getElem.1 h3 i (i + 1) (by omega) hi (by omega)
theorem rate_club {ms : List Mem} {r : Res} (h : codeOf ms [r] = 0) : clubOk (rateOf ms r).1 = true := by
  obtain ⟨h1, h2, h3⟩ := ok_one h
  have hn := rateOf_names ms r
  have hl := rateOf_len ms r
  have hr := rateOf_ratings (ratings_of h1) h2 h3
  obtain ⟨c1, c2, c3⟩ := (club_iff ms).1 h1
  refine (club_iff _).2 ⟨by omega, fun x hx => ?_, ?_⟩
  · have h4 := hr x hx
    have h5 : x.name ∈ ms.map (·.name) := by rw [← hn]; exact List.mem_map_of_mem hx
    obtain ⟨y, hy, he⟩ := List.mem_map.1 h5
    have h6 := c2 y hy
    simp only [memOk, Bool.and_eq_true, withinB, decide_eq_true_eq] at h6 ⊢
    exact ⟨he ▸ h6.1, h4⟩
  · have p1 : (ms.map (·.name)).Pairwise (fun a b => a.toList < b.toList) := List.pairwise_map.2 c3
    rw [← hn] at p1
    exact (List.pairwise_map (f := fun m : Mem => m.name)).1 p1
theorem findFrom_app {nm : ByteArray} {m : Mem} {G : List Mem} (hm : m.name.toList = nm.toList) : ∀ (L : List Mem) (k : Nat), (∀ y ∈ L, ¬ y.name.toList = nm.toList) → findFrom nm (L ++ m :: G) k = (k + L.length : Nat) := by
  intro L
  induction L with
  | nil => intro k _; simp [findFrom, hm]
  | cons x xs ih =>
    intro k h
    rw [List.cons_append, findFrom, if_neg (by simpa using h x (by simp)), ih (k + 1) (fun y hy => h y (by simp [hy]))]
    simp
    omega
/-- A member that was added is found, and the club stays valid. -/
theorem add_found {ms : List Mem} {m : Mem} (h : (addMember ms m).2 = 0) : addMember ms m = (addMem ms m, 0) ∧ clubOk (addMem ms m) = true ∧ ratingOf (addMem ms m) m.name = (m.rating, 0) := by
  cases hc : (clubOk ms && memOk m) with
  | false => rw [addMember_bad hc] at h; simp at h
  | true =>
    by_cases h1 : 0 ≤ findMem m.name ms
    · rw [addMember_found hc h1] at h; simp at h
    · by_cases h2 : 12 ≤ ms.length
      · rw [addMember_full hc h1 h2] at h; simp at h
      · rw [Bool.and_eq_true] at hc
        obtain ⟨hc1, hc2⟩ := hc
        have hne := findMem_none (nm := m.name) (ms := ms) (by omega)
        obtain ⟨c1, c2, c3⟩ := (club_iff ms).1 hc1
        obtain ⟨L, G, rfl, hL, hG⟩ := club_split m ms (fun i j hij hj => sorted_of hc1 hij hj) hne
        have he := addMem_split m G hG L hL
        have hcl : clubOk (L ++ m :: G) = true := by
          refine (club_iff _).2 ⟨by simp at h2 ⊢; omega, fun x hx => ?_, ?_⟩
          · rcases List.mem_append.1 hx with hx | hx
            · exact c2 x (by simp [hx])
            · rcases List.mem_cons.1 hx with rfl | hx
              · exact hc2
              · exact c2 x (by simp [hx])
          · rw [List.pairwise_append] at c3 ⊢
            obtain ⟨p1, p2, p3⟩ := c3
            refine ⟨p1, List.pairwise_cons.2 ⟨hG, p2⟩, fun a ha b hb => ?_⟩
            rcases List.mem_cons.1 hb with rfl | hb
            · exact hL a ha
            · exact p3 a ha b hb
        have hf : findMem m.name (L ++ m :: G) = L.length := by
          have := findFrom_app (nm := m.name) (m := m) (G := G) rfl L 0 (fun y hy => hne y (by simp [hy]))
          rw [Nat.zero_add] at this
          exact this
        refine ⟨addMember_ok (by simp [hc1, hc2]) h1 h2, by rw [he]; exact hcl, ?_⟩
        rw [he]
        unfold ratingOf
        rw [if_neg (by simp [hcl]), if_neg (by omega), hf]
        simp
end Go.Proofs.Ytpodkgfapbcmlaa
