/- FnExactRatingOf: for every club and every name the program's RatingOf gives what the reference's gives, and leaves its argument as it was: the statement's function returns true. No condition on the input. -/
import Derived.Test.YtpodkgfapbcmlaaRows
import Derived.Test.YtpodkgfapbcmlaaFrame
import Derived.Test.YtpodkgfapbcmlaaLRatingOf
namespace Go.Proofs.Ytpodkgfapbcmlaa
open Go.ChangeShapes Go.WideShapes Go.ChangeAt Go.RowKit Go.Sort Go.Joins Go.Deep
open Go.ChangeMaps (open_string shut_string)

theorem own : ownKnob Try.prog.godebug = none := by kernel_rfl
theorem laidOut : laidOutB Try.prog = true := by kernel_rfl

section
variable {H : Type} {ec : TypeId × Value → H} {w : World} {base : Nat} {spare : Nat → Bool} {held : Bool}
instance : Inhabited Mem := ⟨⟨⟨#[]⟩, 0⟩⟩
set_option maxRecDepth 100000 in
theorem Mem.read (m : Nat) (cs : List Value) (y : DataW H × List MemPlace) (h : DataW.trod ec Try.prog w base spare held m 53 cs = some y) : ∃ a : Mem, cs = Mem.enc a ∧ a.fit := by
  obtain ⟨hl, n, hf⟩ := struct_cells Try.underlying53 (by kernel_rfl) (by kernel_rfl) h
  obtain ⟨v0, y0, h0, t0⟩ := hf 0 _ rfl
  obtain ⟨v1, y1, h1, t1⟩ := hf 1 _ rfl
  obtain ⟨s0, e0, _, b0⟩ := DataW.trod_string Try.underlying9 t0
  obtain ⟨x1, e1, _, _⟩ := DataW.trod_int Try.underlying2 t1
  simp only [List.cons.injEq, and_true] at e0 e1
  subst e0 e1
  refine ⟨⟨s0, x1⟩, ?_, by unfold Mem.fit; unfold maxLen at b0; simp only; omega⟩
  match cs, hl with
  | [c0, c1], _ =>
    simp only [List.getElem?_cons_zero, List.getElem?_cons_succ, Option.some.injEq] at h0 h1
    rw [h0, h1]
    rfl
set_option maxRecDepth 100000 in
/-- A club that came in. -/
theorem Club.read {r : Reach} {b0 : Nat} {v : Value} {d : DataW H} {p : List MemPlace} (hv : Value.okWide Try.prog w r b0 24 v) (h : DataW.Trod ec Try.prog w base spare held 24 v d p) :
    ∃ (a : Option Addr) (cap : Nat) (ms : List Mem), v = .agg #[.slice a ms.length cap] ∧ SliceAt w 2 Mem.enc a ms ∧ MemsFit ms ∧ ms.length ≤ 9223372036854775807 := by
  obtain ⟨cs, rfl, fuel, x, hf⟩ := open_aggs Try.underlying24 hv h
  obtain ⟨hl, n, hg⟩ := struct_cells Try.underlying24 (by kernel_rfl) (by kernel_rfl) hf
  obtain ⟨v0, y0, h0, t0⟩ := hg 0 _ rfl
  obtain ⟨a, cap, ms, rfl, hs, hgood, hlen⟩ := read_slice (sz := 2) (enc := Mem.enc) (good := Mem.fit) Try.underlying22 (by kernel_rfl) (by decide) Mem.read t0
  refine ⟨a, cap, ms, ?_, hs, hgood, hlen⟩
  rw [list1 hl h0]
end

set_option maxRecDepth 100000 in
theorem lifted_RatingOf (os : Os) (started : os.Started) (H : Type) (enc : TypeId × Value → H) :
    ReturnsInHanded {} Try.checked os 3 .any (Rows.fnExactRatingOfSpec.pre6 enc Try.prog Try.f3 Rows.fnExactRatingOfRow.domain false) (Rows.fnExactRatingOfSpec.post enc Try.prog Try.f3 false true false false) := by
  refine returnsInHanded_of_change (C := Try.checked) own started (by kernel_rfl) Try.func3
    (ChangeSpec.witness6 (enc := enc) (C := Try.checked) false ⟨#[], #[.agg #[.slice none 0 0], .string ⟨#[]⟩], []⟩ 8 (by kernel_rfl) (by kernel_rfl) (by kernel_rfl) (by kernel_rfl)) ?_
  intro W base args ds gs before hval0 hW hcnd _
  have hval : ∀ (j : Nat) t v, Try.f3.params[j]? = some t → args[j]? = some v → Value.okWide Try.prog W .any base t v := hval0
  have hW' := hW
  obtain ⟨p, q, hA0, hV, rfl, hfz, hnd⟩ := hW
  have hA : DataW.TrodAll enc Try.prog W 0 (fun _ => true) true Try.f3.params.toList args.toList ds p := hA0
  rw [Try.params3] at hA hval
  obtain ⟨v0, vs0, d0, ds0, p0, q0, hargs, rfl, rfl, h0, r0⟩ := trodAll_cons hA
  obtain ⟨v1, vs1, d1, ds1, p1, q1, rfl, rfl, rfl, h1, r1⟩ := trodAll_cons r0
  obtain ⟨rfl, rfl, rfl⟩ := trodAll_nil r1
  obtain rfl : args = #[v0, v1] := by cases args; simp_all
  obtain ⟨rfl, rfl⟩ := trodVars_none hV
  have k0 := h0
  have k1 := h1
  have lt0 : ∀ x ∈ p0, x.block < W.heap.size := by obtain ⟨m, hm⟩ := k0; exact DataW.trod_lt m _ _ _ hm
  have lt1 : ∀ x ∈ p1, x.block < W.heap.size := by obtain ⟨m, hm⟩ := k1; exact DataW.trod_lt m _ _ _ hm
  obtain ⟨a, cap, ms, rfl, hs, hfit, hlen⟩ := Club.read (hval 0 24 v0 rfl rfl) h0
  obtain ⟨m1, h1m⟩ := h1
  obtain ⟨nm, e1, _, hnm⟩ := DataW.trod_string Try.underlying9 h1m
  obtain rfl : v1 = .string nm := by
    have := hval 1 9 v1 rfl rfl
    obtain ⟨s, rfl, _⟩ := open_string Try.underlying9 this k1
    simp only [Value.cells, List.cons.injEq, and_true] at e1
    exact e1
  clear hA0 hval0
  refine (lawRatingOf_any ms nm a cap W hs hlen hfit (by unfold maxLen at hnm; omega)).mono fun e W' ⟨he, bel⟩ => ?_
  subst he
  exact ⟨_, rfl, _, _, _, [], _, [], hW', trodAll_mk1 (shut_bool Try.underlying4 _), (trodAll_cons_mk (Below.trod laidOut (by kernel_rfl) (of_decide_eq_true (by kernel_rfl)) k0 bel lt0) (trodAll_cons_mk (Below.trod laidOut (by kernel_rfl) (of_decide_eq_true (by kernel_rfl)) k1 bel lt1) trodAll_mk0)), rfl, bel.frame _, fun h => by cases h⟩

theorem ratingOf_holds : Rows.FnExactRatingOfSaid :=
  OpenClaim.holds_of_wide 3 Try.f3 rfl rfl rfl rfl rfl rfl rfl ⟨rfl, rfl, rfl, rfl, rfl⟩ rfl rfl rfl rfl rfl (by kernel_rfl) Try.func3 (by kernel_rfl)
    (of_decide_eq_true (by kernel_rfl)) (by unfold Func.isWrapper; first | (rw [if_pos (by decide +kernel)]; kernel_rfl) | (rw [if_neg (by decide +kernel)]; exact ⟨rfl, rfl⟩))
    (fun os started H enc _ => lifted_RatingOf os started H enc)
end Go.Proofs.Ytpodkgfapbcmlaa
