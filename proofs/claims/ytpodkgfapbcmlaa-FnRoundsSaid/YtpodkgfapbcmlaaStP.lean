/- The plain law of StandingsOf: the program goes result by result, the reference member by member; the program sorts stably what stands in the order of names, the reference lays each line by points, spread and name. -/
import Derived.Test.YtpodkgfapbcmlaaTStanding
import Derived.Test.YtpodkgfapbcmlaaAddP
import Derived.Test.YtpodkgfapbcmlaaAll
namespace Go.Proofs.Ytpodkgfapbcmlaa
open Go.ChangeShapes Go.WideShapes Go.ChangeAt Go.RowKit Go.Sort

def linePts (x y : Int) : Int := if x > y then 2 else if x = y then 1 else 0
def lineA (nm : ByteArray) (s : Std) (r : Res) : Std := if (r.a.toList == nm.toList) = true then ⟨s.name, s.points + linePts r.sa r.sb, s.spread + (r.sa - r.sb), s.games + 1⟩ else s
def lineB (nm : ByteArray) (s : Std) (r : Res) : Std := if (r.b.toList == nm.toList) = true then ⟨s.name, s.points + linePts r.sb r.sa, s.spread + (r.sb - r.sa), s.games + 1⟩ else s
def lineAdd (nm : ByteArray) (s : Std) (r : Res) : Std :=
  if (r.a.toList == nm.toList && r.b.toList.isEmpty) = true then ⟨s.name, s.points + 2, s.spread, s.games⟩ else lineB nm (lineA nm s r) r
def lineOf (nm : ByteArray) (rs : List Res) : Std := rs.foldl (lineAdd nm) ⟨nm, 0, 0, 0⟩
theorem lineOf_succ {nm : ByteArray} {rs : List Res} {k : Nat} (h : k < rs.length) : lineOf nm (rs.take (k + 1)) = lineAdd nm (lineOf nm (rs.take k)) rs[k] := by
  unfold lineOf
  rw [List.take_succ_eq_append_getElem h, List.foldl_append]
  rfl
theorem lineAdd_name (nm : ByteArray) (s : Std) (r : Res) : (lineAdd nm s r).name = s.name := by
  unfold lineAdd lineB lineA
  split
  · rfl
  · split <;> split <;> rfl
theorem lineOf_name (nm : ByteArray) (rs : List Res) : (lineOf nm rs).name = nm := by
  have : ∀ (rs : List Res) (s : Std), (rs.foldl (lineAdd nm) s).name = s.name := by
    intro rs
    induction rs with
    | nil => intro _; rfl
    | cons r rs ih => intro s; rw [List.foldl_cons, ih, lineAdd_name]
  exact this rs _
/-- the bounds of a line after k results -/
def StdBd (k : Nat) (s : Std) : Prop := 0 ≤ s.points ∧ s.points ≤ 4 * k ∧ -(8000 * (k : Int)) ≤ s.spread ∧ s.spread ≤ 8000 * k ∧ 0 ≤ s.games ∧ s.games ≤ 2 * k
theorem linePts_bd (x y : Int) : 0 ≤ linePts x y ∧ linePts x y ≤ 2 := by unfold linePts; split <;> (try split) <;> omega
def scOk (r : Res) : Prop := -2000 ≤ r.sa ∧ r.sa ≤ 2000 ∧ -2000 ≤ r.sb ∧ r.sb ≤ 2000
theorem scOk_of {r : Res} (h : resOk r = true) : scOk r := by
  cases hb : r.b.toList.isEmpty with
  | true =>
    rw [resOk_bye hb] at h
    simp only [Bool.and_eq_true, beq_iff_eq] at h
    obtain ⟨⟨_, h1⟩, h2⟩ := h
    unfold scOk
    omega
  | false =>
    obtain ⟨a, b, c, d, _⟩ := scores_game h hb
    exact ⟨a, b, c, d⟩
theorem lineAdd_bd {k : Nat} {nm : ByteArray} {s : Std} {r : Res} (h : StdBd k s) (hr : scOk r) : StdBd (k + 1) (lineAdd nm s r) := by
  obtain ⟨a, b, c, d, e, f⟩ := h
  obtain ⟨r1, r2, r3, r4⟩ := hr
  have p1 := linePts_bd r.sa r.sb
  have p2 := linePts_bd r.sb r.sa
  unfold lineAdd lineB lineA
  split
  · refine ⟨?_, ?_, ?_, ?_, ?_, ?_⟩ <;> simp only <;> omega
  · split <;> split <;> (refine ⟨?_, ?_, ?_, ?_, ?_, ?_⟩ <;> first | omega | (simp only; omega))
theorem lineOf_bd {nm : ByteArray} {rs : List Res} (h : rs.all resOk = true) : ∀ k, k ≤ rs.length → StdBd k (lineOf nm (rs.take k)) := by
  intro k
  induction k with
  | zero => intro _; exact ⟨by simp [lineOf], by simp [lineOf], by simp [lineOf], by simp [lineOf], by simp [lineOf], by simp [lineOf]⟩
  | succ k ih =>
    intro hk
    rw [lineOf_succ (by omega)]
    exact lineAdd_bd (ih (by omega)) (scOk_of (List.all_eq_true.1 h _ (List.getElem_mem _)))

/-! ### The program: result by result -/
def scored (s : Std) (x y : Int) : Std := ⟨s.name, s.points + (1 + signI (x - y)), s.spread + (x - y), s.games + 1⟩
def byed (s : Std) : Std := ⟨s.name, s.points + 2, s.spread, s.games⟩
theorem scored_pts (x y : Int) : 1 + signI (x - y) = linePts x y := by
  unfold linePts
  rcases signI_cases (x - y) with ⟨h1, h2⟩ | ⟨h1, h2⟩ | ⟨h1, h2⟩ <;> rw [h2] <;> split <;> (try split) <;> omega
theorem name_inj {ms : List Mem} (hc : clubOk ms = true) {i j : Nat} (hi : i < ms.length) (hj : j < ms.length) (h : ms[i].name.toList = ms[j].name.toList) : i = j := by
  rcases Nat.lt_trichotomy i j with hl | rfl | hl
  · have := sorted_of hc hl hj
    unfold Mem.lt at this
    rw [h] at this
    exact absurd this (List.lt_irrefl _)
  · rfl
  · have := sorted_of hc hl hi
    unfold Mem.lt at this
    rw [h] at this
    exact absurd this (List.lt_irrefl _)
theorem name_ne_empty {ms : List Mem} (hc : clubOk ms = true) {i : Nat} (hi : i < ms.length) : ms[i].name.toList.isEmpty = false := by
  have h := hc
  simp only [clubOk, Bool.and_eq_true, List.all_eq_true, List.mem_range] at h
  have h2 := h.2 i hi
  have h3 : memOk ms[i] = true := by
    by_cases h0 : i = 0
    · subst h0; rwa [okAt_zero hi] at h2
    · rw [okAt_succ hi (by omega), Bool.and_eq_true] at h2; exact h2.1
  unfold memOk isNameL at h3
  simp only [Bool.and_eq_true, decide_eq_true_eq] at h3
  have h4 := h3.1.1.1.1
  have h5 : ms[i].name.toList = ms[i].name.data.toList := ByteArray.toList_eq _
  rw [h5]
  cases hl : ms[i].name.data.toList with
  | nil => rw [hl] at h4; simp at h4
  | cons x xs => rfl
theorem lineAdd_bye {nm : ByteArray} {s : Std} {r : Res} (h : (r.a.toList == nm.toList) = true) (hb : r.b.toList.isEmpty = true) : lineAdd nm s r = byed s := by
  unfold lineAdd
  rw [if_pos (by rw [h, hb]; rfl)]
  rfl
theorem lineAdd_none {nm : ByteArray} {s : Std} {r : Res} (h : (r.a.toList == nm.toList) = false) (hb : (r.b.toList == nm.toList) = false) : lineAdd nm s r = s := by
  unfold lineAdd lineB lineA
  rw [if_neg (by rw [h]; simp), if_neg (by rw [hb]; decide), if_neg (by rw [h]; decide)]
theorem lineAdd_a {nm : ByteArray} {s : Std} {r : Res} (h : (r.a.toList == nm.toList) = true) (h0 : r.b.toList.isEmpty = false) (hb : (r.b.toList == nm.toList) = false) : lineAdd nm s r = scored s r.sa r.sb := by
  unfold lineAdd lineB lineA
  rw [if_neg (by rw [h, h0]; decide), if_neg (by rw [hb]; decide), if_pos h]
  simp [scored, scored_pts]
theorem lineAdd_b {nm : ByteArray} {s : Std} {r : Res} (h : (r.a.toList == nm.toList) = false) (hb : (r.b.toList == nm.toList) = true) : lineAdd nm s r = scored s r.sb r.sa := by
  unfold lineAdd lineB lineA
  rw [if_neg (by rw [h]; simp), if_pos hb, if_neg (by rw [h]; decide)]
  simp [scored, scored_pts]
/-- a bye moves the member's line alone -/
theorem map_bye {ms : List Mem} (hc : clubOk ms = true) {r : Res} (hb : r.b.toList.isEmpty = true) {i : Nat} (hi : i < ms.length) (h1 : findMem r.a ms = i) (f : Mem → Std) :
    (ms.map f).set i (byed (f ms[i])) = ms.map fun m => lineAdd m.name (f m) r := by
  have hn := findMem_name hi h1
  apply List.ext_getElem
  · simp
  intro p hp hp2
  have hp3 : p < ms.length := by simpa using hp2
  by_cases he : i = p
  · subst he
    rw [List.getElem_set_self, List.getElem_map, lineAdd_bye (by rw [hn]; simp) hb]
  · rw [List.getElem_set_ne he, List.getElem_map, List.getElem_map, lineAdd_none]
    · rw [beq_eq_false_iff_ne]
      intro e
      exact he (name_inj hc hi hp3 (hn.trans e))
    · rw [beq_eq_false_iff_ne]
      intro e
      have h0 := name_ne_empty hc hp3
      rw [← e, hb] at h0
      cases h0
/-- a game moves the two members' lines alone -/
theorem map_game {ms : List Mem} (hc : clubOk ms = true) {r : Res} (hb : r.b.toList.isEmpty = false) {i j : Nat} (hi : i < ms.length) (hj : j < ms.length) (h1 : findMem r.a ms = i) (h2 : findMem r.b ms = j) (hne : i ≠ j) (f : Mem → Std) :
    ((ms.map f).set i (scored (f ms[i]) r.sa r.sb)).set j (scored (f ms[j]) r.sb r.sa) = ms.map fun m => lineAdd m.name (f m) r := by
  have hn := findMem_name hi h1
  have hm := findMem_name hj h2
  apply List.ext_getElem
  · simp
  intro p hp hp2
  have hp3 : p < ms.length := by simpa using hp2
  by_cases hjp : j = p
  · subst hjp
    rw [List.getElem_set_self, List.getElem_map, lineAdd_b]
    · rw [beq_eq_false_iff_ne]
      intro e
      exact hne (name_inj hc hi hj (hn.trans e))
    · rw [hm]; simp
  · have hb2 : (r.b.toList == ms[p].name.toList) = false := by
      rw [beq_eq_false_iff_ne]
      intro e
      exact hjp (name_inj hc hj hp3 (hm.trans e))
    rw [List.getElem_set_ne hjp]
    by_cases hip : i = p
    · subst hip
      rw [List.getElem_set_self, List.getElem_map, lineAdd_a (by rw [hn]; simp) hb hb2]
    · rw [List.getElem_set_ne hip, List.getElem_map, List.getElem_map, lineAdd_none ?_ hb2]
      rw [beq_eq_false_iff_ne]
      intro e
      exact hip (name_inj hc hi hp3 (hn.trans e))

/-! ### The order -/
def stdLess (x y : Std) : Bool := decide (y.points < x.points) || (x.points == y.points && decide (y.spread < x.spread))
def stdBefore (x y : Std) : Bool := if x.points ≠ y.points then decide (y.points < x.points) else if x.spread ≠ y.spread then decide (y.spread < x.spread) else Op.bytesLess x.name.toList y.name.toList
theorem before_less {x y : Std} (h : y.name.toList < x.name.toList) : stdBefore x y = stdLess x y := by
  unfold stdBefore stdLess
  by_cases h1 : x.points = y.points
  · rw [if_neg (by simpa using h1)]
    by_cases h2 : x.spread = y.spread
    · rw [if_neg (by simpa using h2), bytesLess_eq, decide_eq_false (List.lt_asymm h)]
      simp [h1, h2]
    · rw [if_pos h2]
      simp [h1]
  · rw [if_pos h1]
    simp [h1]
theorem insRev_congr {α : Type} {lt lt' : α → α → Bool} {x : α} : ∀ (S : List α), (∀ y ∈ S, lt x y = lt' x y) → insRev lt x S = insRev lt' x S
  | [], _ => rfl
  | y :: S, h => by
    unfold insRev
    rw [h y (by simp), insRev_congr S (fun z hz => h z (by simp [hz]))]
theorem insR_congr {α : Type} {lt lt' : α → α → Bool} {x : α} {S : List α} (h : ∀ y ∈ S, lt x y = lt' x y) : insR lt S x = insR lt' S x := by
  unfold insR
  rw [insRev_congr S.reverse (fun y hy => h y (by simpa using hy))]
theorem mem_insRev {α : Type} {lt : α → α → Bool} {x y : α} : ∀ (S : List α), y ∈ insRev lt x S → y = x ∨ y ∈ S
  | [], h => by simpa [insRev] using h
  | z :: S, h => by
    unfold insRev at h
    split at h
    · rcases List.mem_cons.1 h with rfl | h
      · exact .inr (by simp)
      · rcases mem_insRev S h with h | h
        · exact .inl h
        · exact .inr (by simp [h])
    · rcases List.mem_cons.1 h with rfl | h
      · exact .inl rfl
      · exact .inr h
theorem mem_insR {α : Type} {lt : α → α → Bool} {x y : α} {S : List α} (h : y ∈ insR lt S x) : y = x ∨ y ∈ S := by
  unfold insR at h
  rcases mem_insRev _ (by simpa using h) with h | h
  · exact .inl h
  · exact .inr (by simpa using h)
theorem fold_eq : ∀ (L S : List Std), (∀ y ∈ S, ∀ x ∈ L, y.name.toList < x.name.toList) → L.Pairwise (fun a b => a.name.toList < b.name.toList) → L.foldl (insR stdBefore) S = L.foldl (insR stdLess) S
  | [], _, _, _ => rfl
  | x :: L, S, h, hp => by
    rw [List.foldl_cons, List.foldl_cons, insR_congr (fun y hy => before_less (h y hy x (by simp)))]
    rw [List.pairwise_cons] at hp
    refine fold_eq L _ (fun y hy z hz => ?_) hp.2
    rcases mem_insR hy with rfl | hy
    · exact hp.1 z hz
    · exact h y hy z (by simp [hz])
def tableOf (ms : List Mem) (rs : List Res) : List Std := (ms.map fun m => lineOf m.name rs).foldl (insR stdBefore) []
theorem sort_lines {ms : List Mem} (hc : clubOk ms = true) (rs : List Res) : insSort stdLess (ms.map fun m => lineOf m.name rs) = tableOf ms rs := by
  unfold insSort tableOf
  refine (fold_eq _ [] (fun _ h => by cases h) ?_).symm
  rw [List.pairwise_map]
  simp only [lineOf_name]
  rw [List.pairwise_iff_getElem]
  intro i j hi hj hij
  exact sorted_of hc hij hj
theorem foldl_insR_len {α : Type} (lt : α → α → Bool) : ∀ (L S : List α), (L.foldl (insR lt) S).length = S.length + L.length
  | [], S => by simp
  | x :: L, S => by rw [List.foldl_cons, foldl_insR_len lt L, insR_len]; simp; omega
theorem tableOf_len (ms : List Mem) (rs : List Res) : (tableOf ms rs).length = ms.length := by unfold tableOf; rw [foldl_insR_len]; simp
def standingsOf (ms : List Mem) (rs : List Res) : List Std × Int := if codeOf ms rs = 0 then (tableOf ms rs, 0) else ([], codeOf ms rs)
theorem standingsOf_bad {ms : List Mem} {rs : List Res} (h : codeOf ms rs ≠ 0) : standingsOf ms rs = ([], codeOf ms rs) := by unfold standingsOf; rw [if_neg h]
theorem standingsOf_ok {ms : List Mem} {rs : List Res} (h : codeOf ms rs = 0) : standingsOf ms rs = (tableOf ms rs, 0) := by unfold standingsOf; rw [if_pos h]
theorem standingsOf_len (ms : List Mem) (rs : List Res) : (standingsOf ms rs).1.length ≤ ms.length := by
  by_cases h : codeOf ms rs = 0
  · rw [standingsOf_ok h]; simp [tableOf_len]
  · rw [standingsOf_bad h]; simp
end Go.Proofs.Ytpodkgfapbcmlaa
