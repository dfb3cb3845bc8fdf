/- Contracts: RateAll (program and reference). -/
import Derived.Test.YtpodkgfapbcmlaaRate
namespace Go.Proofs.Ytpodkgfapbcmlaa
open Go.ChangeShapes Go.WideShapes Go.ChangeAt Go.RowKit Go.Sort

def ratesAll (ms : List Mem) (rs : List Res) : List Mem := rs.foldl (fun m r => (rateOf m r).1) ms
def rateAll (ms : List Mem) (rs : List Res) : List Mem × Int := if codeOf ms rs = 0 then (ratesAll ms rs, 0) else ([], codeOf ms rs)
theorem rateAll_bad {ms : List Mem} {rs : List Res} (h : codeOf ms rs ≠ 0) : rateAll ms rs = ([], codeOf ms rs) := by unfold rateAll; rw [if_neg h]
theorem rateAll_ok {ms : List Mem} {rs : List Res} (h : codeOf ms rs = 0) : rateAll ms rs = (ratesAll ms rs, 0) := by unfold rateAll; rw [if_pos h]
theorem ratesAll_succ {ms : List Mem} {rs : List Res} {k : Nat} (h : k < rs.length) : ratesAll ms (rs.take (k + 1)) = (rateOf (ratesAll ms (rs.take k)) rs[k]).1 := by
  unfold ratesAll
  rw [List.take_succ_eq_append_getElem h, List.foldl_append]
  rfl
theorem set_name (l : List Mem) (i : Nat) (d : Mem) (x : Int) : (l.set i ⟨(l.getD i d).name, x⟩).map (·.name) = l.map (·.name) := by
  apply List.ext_getElem?
  intro k
  rw [List.getElem?_map, List.getElem?_map, List.getElem?_set]
  by_cases hk : i = k
  · subst hk
    rw [if_pos rfl]
    by_cases hl : i < l.length
    · rw [if_pos hl, List.getD_eq_getElem?_getD, List.getElem?_eq_getElem hl]
      rfl
    · rw [if_neg hl, List.getElem?_eq_none (by omega)]
  · rw [if_neg hk]
theorem rateOf_names (ms : List Mem) (r : Res) : (rateOf ms r).1.map (·.name) = ms.map (·.name) := by
  unfold rateOf
  split
  · rfl
  · simp only [moved]
    rw [set_name, set_name]
theorem rateOf_len (ms : List Mem) (r : Res) : (rateOf ms r).1.length = ms.length := by
  have := congrArg List.length (rateOf_names ms r)
  simpa using this
theorem findFrom_names (nm : ByteArray) : ∀ (a b : List Mem) (k : Nat), a.map (·.name) = b.map (·.name) → findFrom nm a k = findFrom nm b k
  | [], [], _, _ => rfl
  | [], _ :: _, _, h => by simp at h
  | _ :: _, [], _, h => by simp at h
  | x :: a, y :: b, k, h => by
    simp only [List.map_cons, List.cons.injEq] at h
    unfold findFrom
    rw [h.1, findFrom_names nm a b (k + 1) h.2]
theorem known_names {a b : List Mem} (h : a.map (·.name) = b.map (·.name)) (r : Res) : known a r = known b r := by
  unfold known findMem
  rw [findFrom_names _ _ _ _ h, findFrom_names r.b _ _ _ h]
theorem rateOf_ratings {ms : List Mem} {r : Res} (hrt : RatingsOk ms) (hok : resOk r = true) (hk : known ms r = true) : RatingsOk (rateOf ms r).1 := by
  cases hbe : r.b.toList.isEmpty with
  | true => rw [rateOf_bye hbe]; exact hrt
  | false =>
    obtain ⟨i, j, h1, hi, h2, hj⟩ := known_game hk hbe
    obtain ⟨s0, s1, s2, s3, hab⟩ := scores_game hok hbe
    have hne := ne_of_names hi hj h1 h2 hab
    obtain ⟨ra0, ra1⟩ := hrt.at hi
    obtain ⟨rb0, rb1⟩ := hrt.at hj
    obtain ⟨g0, g1, g2, g3⟩ := gain_bd ms[i].rating ms[j].rating r.sa r.sb ra0 ra1 rb0 rb1
    rw [rateOf_game hbe hi hj h1 h2 hne]
    intro m hm
    rcases List.mem_or_eq_of_mem_set hm with hm | rfl
    · rcases List.mem_or_eq_of_mem_set hm with hm | rfl
      · exact hrt m hm
      · exact ⟨g0, g1⟩
    · exact ⟨g2, g3⟩
/-- What holds ahead of each round. -/
theorem ratesAll_inv {ms : List Mem} {rs : List Res} (hrt : RatingsOk ms) (hok : rs.all resOk = true) (hk : rs.all (known ms) = true) : ∀ k, k ≤ rs.length →
    (ratesAll ms (rs.take k)).map (·.name) = ms.map (·.name) ∧ RatingsOk (ratesAll ms (rs.take k)) := by
  intro k
  induction k with
  | zero => intro _; exact ⟨rfl, hrt⟩
  | succ k ih =>
    intro hkl
    obtain ⟨h1, h2⟩ := ih (by omega)
    have hl : k < rs.length := by omega
    rw [ratesAll_succ hl]
    refine ⟨(rateOf_names _ _).trans h1, rateOf_ratings h2 (List.all_eq_true.1 hok _ (List.getElem_mem hl)) ?_⟩
    rw [known_names h1]
    exact List.all_eq_true.1 hk _ (List.getElem_mem hl)
theorem names_len {a b : List Mem} (h : a.map (·.name) = b.map (·.name)) : a.length = b.length := by
  have := congrArg List.length h
  simpa using this
/-- a club in new memory, and a number -/
def ClubCode (w : World) (p : List Mem × Int) (en : Ending) (w' : World) : Prop :=
  ∃ (a : Option Addr) (cap : Nat), en = .returned (.tuple #[.agg #[.slice a p.1.length cap], .int .i64 p.2]) ∧ w'.ownsRow w.heap.size 56 2 (.slice a p.1.length cap) p.1.length (p.1.flatMap Mem.enc) ∧ Below w.heap.size w w'
theorem own_nil {w : World} {base : Nat} {e : TypeId} {sz n cap : Nat} {a : Option Addr} {ms : List Mem} {L : List Value} (h : w.ownsRow base e sz (.slice a n cap) n L) (hn : n = ms.length) : a = none → ms = [] := by
  rintro rfl
  rcases h.2 with ⟨_, h0⟩ | ⟨g, cap', cur, hv, _⟩
  · cases ms with
    | nil => rfl
    | cons m ms => simp at hn; omega
  · simp at hv
end Go.Proofs.Ytpodkgfapbcmlaa
