/- Plain rules: a region that draws its order, in which a value is loaded ahead of an operation (number q) and what is known of memory need hold no longer behind it. No condition. -/
import Derived.Test.YtjdcdhhbgijaoaaGreatDoorFsB
import Derived.Deep.RegionHeld3
namespace Go.Proofs.YtjdcdhhbgijaoaaGreatDoor
open Go.ChangeShapes Go.WideShapes Go.ChangeAt Go.RowKit Go.Sort

section
variable {P : Program} {md : Region.Mode} {ops : Array Oper} {Q : Exit → Act → World → Prop} {q : Nat} {S : World → Prop}
/-- S holds as long as operation q has not come up -/
def okS (q : Nat) (S : World → Prop) (l : Array Bool) (w : World) : Prop := l.getD q true = false → S w
/-- whatever order is picked from here on, and S holds behind each operation until q has come up -/
def wpAnyG (P : Program) (md : Region.Mode) (ops : Array Oper) (Q : Exit → Act → World → Prop) (q : Nat) (S : World → Prop) : Nat → Array Bool → Act → World → Prop
  | 0, listed, a, w => Region.ready md ops listed = [] ∧ Q .normal a w
  | fuel + 1, listed, a, w =>
    (Region.ready md ops listed = [] → Q .normal a w) ∧
    ∀ i ∈ Region.ready md ops listed, wpOp P ops Q i (fun a' w' => okS q S (listed.setIfInBounds i true) w' ∧ wpAnyG P md ops Q q S fuel (listed.setIfInBounds i true) a' w') a w
theorem wpAny_of_G : ∀ (fuel : Nat) (listed : Array Bool) (a : Act) (w : World), wpAnyG P md ops Q q S fuel listed a w → wpAny P md ops Q fuel listed a w
  | 0, _, _, _, h => h
  | fuel + 1, _, _, _, h => ⟨h.1, fun i hi => wpOp_mono (fun a' w' h' => wpAny_of_G fuel _ a' w' h'.2) (h.2 i hi)⟩
def waitsFor (md : Region.Mode) (ops : Array Oper) (q i : Nat) : Prop := ∃ oq, ops[q]? = some oq ∧ ∃ e ∈ oq.after, Region.binds md e = true ∧ e.on = i
def waitsB (md : Region.Mode) (ops : Array Oper) (q i : Nat) : Bool := match ops[q]? with | some o => o.after.toList.any (fun e => Region.binds md e && e.on == i) | none => false
theorem waitsFor_of {i : Nat} (h : waitsB md ops q i = true) : waitsFor md ops q i := by
  unfold waitsB at h
  cases ho : ops[q]? with
  | none => rw [ho] at h; cases h
  | some o =>
    rw [ho] at h
    obtain ⟨e, he, h2⟩ := List.any_eq_true.1 h
    rw [Bool.and_eq_true, beq_iff_eq] at h2
    exact ⟨o, ho, e, by simpa using he, h2.1, h2.2⟩
theorem not_ready {i : Nat} (h : waitsFor md ops q i) {listed : Array Bool} (hi : listed.getD i true = false) : q ∉ Region.ready md ops listed := by
  obtain ⟨oq, hoq, e, he, hb, heq⟩ := h
  intro hq
  obtain ⟨_, o, ho, hall⟩ := mem_ready.1 hq
  rw [hoq] at ho
  cases ho
  have h1 := hall e he hb
  rw [heq] at h1
  rcases Nat.lt_or_ge i listed.size with h' | h'
  · simp [h'] at hi h1; rw [hi] at h1; cases h1
  · simp [Array.getElem?_eq_none h'] at h1
theorem wpAnyG_first {i : Nat} {oi : Oper} {v : Value} (hi : ops[i]? = some oi) (hsel : ∀ (j : Nat) (o : Oper) cs b, ops[j]? = some o → o.op ≠ .select cs b)
    (hQ : ∀ c a w, Q (.panic c) (a.put oi.dst v) w → Q (.panic c) a w) (hqi : i ≠ q) (T : World → Prop) (hST : ∀ w, S w → T w) :
    ∀ (fuel : Nat) (listed : Array Bool) (a : Act) (w : World),
      (∀ j oj, ops[j]? = some oj → j ≠ i → listed.getD j true = false → (∀ e ∈ oj.after, Region.binds md e = true → e.on ≠ i) → oi.apart ops oj = true) →
      i ∈ Region.ready md ops listed → ((∀ w, T w) ∨ (listed.getD q true = false ∧ waitsFor md ops q i)) → T w → okS q S listed w → YieldsIf P ops T oi v a →
      wpAnyG P md ops Q q S fuel (listed.setIfInBounds i true) (a.put oi.dst v) w → wpAnyG P md ops Q q S (fuel + 1) listed a w := by
  have same : ∀ l : Array Bool, (l.setIfInBounds i true).getD q true = l.getD q true := fun l => getD_set_ne true hqi
  have okI : ∀ {l : Array Bool} {w : World}, okS q S l w → okS q S (l.setIfInBounds i true) w := fun {l w} h e => h (by rw [← same l]; exact e)
  intro fuel
  induction fuel with
  | zero =>
    intro listed a w _ hr _ hT hS hy H
    refine ⟨fun h => (by rw [h] at hr; cases hr), fun j hj => ?_⟩
    by_cases hji : j = i
    · subst hji; exact hy.wpOp hi hT ⟨okI hS, H⟩
    · have := ready_mono hj hji
      rw [H.1] at this
      cases this
  | succ fuel ih =>
    intro listed a w hfree hr hq hT hS hy H
    refine ⟨fun h => (by rw [h] at hr; cases hr), fun j hj => ?_⟩
    by_cases hji : j = i
    · subst hji; exact hy.wpOp hi hT ⟨okI hS, H⟩
    · have h1 := H.2 j (ready_mono hj hji)
      obtain ⟨hjun, oj, hoj, hall⟩ := mem_ready.1 hj
      have hnot : ∀ e ∈ oj.after, Region.binds md e = true → e.on ≠ i := fun e he hb heq => by
        have h1 := hall e he hb
        have h0 := (mem_ready.1 hr).1
        rw [heq] at h1
        rcases Nat.lt_or_ge i listed.size with h' | h'
        · simp [h'] at h0 h1; rw [h0] at h1; cases h1
        · simp [Array.getElem?_eq_none h'] at h1
      have h2 := wpOp_putIf hoj (hfree j oj hoj hji hjun hnot) (fun cs b => hsel i oi cs b hi) (fun cs b => hsel j oj cs b hoj) hQ hy h1
      have hfree' : ∀ k ok, ops[k]? = some ok → k ≠ i → (listed.setIfInBounds j true).getD k true = false →
          (∀ e ∈ ok.after, Region.binds md e = true → e.on ≠ i) → oi.apart ops ok = true := fun k ok hk hki hun hno => by
        refine hfree k ok hk hki ?_ hno
        by_cases hjk : j = k
        · subst hjk; exact hjun
        · rw [getD_set_ne true hjk] at hun; exact hun
      have hcomm := Array.setIfInBounds_comm (xs := listed) true true hji
      have hq' : (∀ w, T w) ∨ ((listed.setIfInBounds j true).getD q true = false ∧ waitsFor md ops q i) := by
        rcases hq with h | ⟨h3, h4⟩
        · exact .inl h
        · refine .inr ⟨?_, h4⟩
          have hjq : j ≠ q := fun e => not_ready h4 (mem_ready.1 hr).1 (e ▸ hj)
          rw [getD_set_ne true hjq]; exact h3
      refine wpOp_mono (fun a' w' h3 => ?_) h2
      have hk : okS q S (listed.setIfInBounds j true) w' := fun e => h3.2.1 (by rw [← hcomm, same]; exact e)
      refine ⟨hk, ih (listed.setIfInBounds j true) a' w' hfree' (ready_mono hr (Ne.symm hji)) hq' ?_ hk h3.1 ?_⟩
      · rcases hq' with h | ⟨h4, _⟩
        · exact h w'
        · exact hST w' (hk h4)
      · rw [hcomm]
        exact h3.2.2
/-- an operation is taken first that yields alike everywhere -/
theorem slotG {oi : Oper} {fuel : Nat} {listed : Array Bool} {a : Act} {w : World} (i d : Nat) (v : Value)
    (h : wpAnyG P md ops Q q S fuel (listed.setIfInBounds i true) { a with tmps := a.tmps.setIfInBounds d v } w)
    (hi : ops[i]? = some oi := by exact rfl) (hd : oi.dst = some d := by exact rfl) (hs : Region.noSelect ops = true := by kernel_rfl) (hf : Region.free md ops listed i = true := by kernel_rfl) (hr : (Region.ready md ops listed).contains i = true := by kernel_rfl) (hqi : i ≠ q := by decide)
    (hQ : ∀ c a w, Q (.panic c) (a.put oi.dst v) w → Q (.panic c) a w := by exact fun _ _ _ h => h) (hy : YieldsIf P ops (fun _ => True) oi v a := by exact Or.inl ⟨by rfl, fun w' _ => by go_simp⟩) (hS : okS q S listed w := by assumption) : wpAnyG P md ops Q q S (fuel + 1) listed a w :=
  wpAnyG_first hi (Region.noSelect_spec hs) hQ hqi (fun _ => True) (fun _ _ => trivial) fuel listed a w (Region.free_spec hi hf) (by simpa using hr) (.inl fun _ => trivial) trivial hS hy (by rw [hd]; exact h)
/-- an operation is taken first for which q waits -/
theorem slotL {oi : Oper} {fuel : Nat} {listed : Array Bool} {a : Act} {w : World} (i d : Nat) (v : Value)
    (h : wpAnyG P md ops Q q S fuel (listed.setIfInBounds i true) { a with tmps := a.tmps.setIfInBounds d v } w) 
    (hi : ops[i]? = some oi := by exact rfl) (hd : oi.dst = some d := by exact rfl) (hs : Region.noSelect ops = true := by kernel_rfl) (hf : Region.free md ops listed i = true := by kernel_rfl) (hr : (Region.ready md ops listed).contains i = true := by kernel_rfl) (hqi : i ≠ q := by decide)
    (hQ : ∀ c a w, Q (.panic c) (a.put oi.dst v) w → Q (.panic c) a w := by exact fun _ _ _ h => h) (hw : waitsFor md ops q i) (hq : listed.getD q true = false) (hS : S w) (hy : YieldsIf P ops S oi v a) : wpAnyG P md ops Q q S (fuel + 1) listed a w :=
  wpAnyG_first hi (Region.noSelect_spec hs) hQ hqi S (fun _ h => h) fuel listed a w (Region.free_spec hi hf) (by simpa using hr) (.inr ⟨hq, hw⟩) hS (fun _ => hS) hy (by rw [hd]; exact h)
/-- one operation alone may come up -/
theorem oneG {fuel : Nat} {listed : Array Bool} {a : Act} {w : World} {o : Oper} (i : Nat) (hr : Region.ready md ops listed = [i]) (ho : ops[i]? = some o)
    (h : ∀ K' : Act → World → Prop, Shut (∀ a w, okS q S (listed.setIfInBounds i true) w → (okS q S (listed.setIfInBounds i true) w → wpAnyG P md ops Q q S fuel (listed.setIfInBounds i true) a w) → K' a w) → if Region.wanted o (yielded ops a.tmps) = true then Oper.wp P o a w K' Q else K' (a.put o.dst undef) w) :
    wpAnyG P md ops Q q S (fuel + 1) listed a w := by
  refine ⟨fun h0 => ?_, fun j hj => ?_⟩
  · rw [hr] at h0
    cases h0
  · rw [hr] at hj
    obtain rfl := List.mem_singleton.1 hj
    exact wpOp_step ho (fun K' hK => h K' (fun a w hS hW => hK a w ⟨hS, hW hS⟩))
theorem doneG {listed : Array Bool} {a : Act} {w : World} (hr : Region.ready md ops listed = []) (h : Q .normal a w) : ∀ fuel, wpAnyG P md ops Q q S fuel listed a w
  | 0 => ⟨hr, h⟩
  | _ + 1 => ⟨fun _ => h, by rw [hr]; simp⟩
/-- the beginning -/
theorem wp_region_G {id : Nat} {a : Act} {w : World} (q : Nat) (S : World → Prop) (hm : P.follows .mixedOrders = true) (hS : S w.drew)
    (h : okS q S (Array.replicate ops.size false) w.drew → wpAnyG P .any ops Q q S ops.size (Array.replicate ops.size false) a w.drew) : (Code.region id ops true).wp P Q a w :=
  wp_region_any hm (wpAny_of_G _ _ _ _ (h (fun _ => hS)))
end
end Go.Proofs.YtjdcdhhbgijaoaaGreatDoor
