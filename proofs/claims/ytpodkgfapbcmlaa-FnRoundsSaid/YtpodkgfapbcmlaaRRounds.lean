/- FnRounds: for every code the statement answers true and leaves the code as it was. No condition on the input. -/
import Derived.Test.YtpodkgfapbcmlaaRows
import Derived.Test.YtpodkgfapbcmlaaRead
import Derived.Test.YtpodkgfapbcmlaaRdL
namespace Go.Proofs.Ytpodkgfapbcmlaa
open Go.ChangeShapes Go.WideShapes Go.ChangeAt Go.RowKit Go.Sort Go.Joins Go.Deep
open Go.ChangeMaps (open_string shut_string)

section
variable {H : Type} {ec : TypeId × Value → H} {w : World} {base : Nat} {spare : Nat → Bool} {held : Bool}
set_option maxRecDepth 100000 in
theorem Byt.read (m : Nat) (cs : List Value) (y : DataW H × List MemPlace) (h : DataW.trod ec Try.prog w base spare held m 5 cs = some y) : ∃ a : Int, cs = Byt.enc a ∧ (0 ≤ a ∧ a ≤ 255) := by
  obtain ⟨x1, e1, _, hw⟩ := DataW.trod_int Try.underlying5 h
  refine ⟨x1, e1, ?_⟩
  have := range_u8 (zs := [x1]) (fun n hn => by rw [List.mem_singleton] at hn; rw [hn]; exact hw) 0
  simpa using this
instance : Inhabited Int := ⟨0⟩
set_option maxRecDepth 100000 in
/-- Bytes that came in. -/
theorem Byt.readS {r : Reach} {b0 : Nat} {v : Value} {d : DataW H} {p : List MemPlace} (hv : Value.okWide Try.prog w r b0 59 v) (h : DataW.Trod ec Try.prog w base spare held 59 v d p) :
    ∃ (a : Option Addr) (cap : Nat) (bs : List Int), v = .slice a bs.length cap ∧ SliceAt w 1 Byt.enc a bs ∧ (∀ x ∈ bs, 0 ≤ x ∧ x ≤ 255) ∧ bs.length ≤ 9223372036854775807 := by
  obtain ⟨a, n, cap, rfl⟩ := okWide_slice Try.underlying59 hv
  obtain ⟨m, hm⟩ := h
  exact read_slice (sz := 1) (enc := Byt.enc) (good := fun x : Int => 0 ≤ x ∧ x ≤ 255) Try.underlying59 (by kernel_rfl) (by decide) Byt.read hm
end
set_option maxRecDepth 100000 in
theorem lifted_Rounds (os : Os) (started : os.Started) (H : Type) (enc : TypeId × Value → H) :
    ReturnsInHanded {} Try.checked os 10 .any (Rows.fnRoundsSpec.pre6 enc Try.prog Try.f10 Rows.fnRoundsRow.domain false) (Rows.fnRoundsSpec.post enc Try.prog Try.f10 false true false false) := by
  refine returnsInHanded_of_change (C := Try.checked) own started (by kernel_rfl) Try.func10
    (ChangeSpec.witness6 (enc := enc) (C := Try.checked) false ⟨#[], #[.slice none 0 0], []⟩ 8 (by kernel_rfl) (by kernel_rfl) (by kernel_rfl) (by kernel_rfl)) ?_
  intro W base args ds gs before hval0 hW hcnd _
  have hval : ∀ (j : Nat) t v, Try.f10.params[j]? = some t → args[j]? = some v → Value.okWide Try.prog W .any base t v := hval0
  have hW' := hW
  obtain ⟨p, q, hA0, hV, rfl, hfz, hnd⟩ := hW
  have hA : DataW.TrodAll enc Try.prog W 0 (fun _ => true) true Try.f10.params.toList args.toList ds p := hA0
  rw [Try.params10] at hA hval
  obtain ⟨v0, vs0, d0, ds0, p0, q0, hargs, rfl, rfl, h0, r0⟩ := trodAll_cons hA
  obtain ⟨rfl, rfl, rfl⟩ := trodAll_nil r0
  obtain rfl : args = #[v0] := by cases args; simp_all
  obtain ⟨rfl, rfl⟩ := trodVars_none hV
  have k0 := h0
  have lt0 : ∀ x ∈ p0, x.block < W.heap.size := by obtain ⟨m, hm⟩ := k0; exact DataW.trod_lt m _ _ _ hm
  obtain ⟨a, cap, bs, rfl, hs, hgood, hlen⟩ := Byt.readS (hval 0 59 v0 rfl rfl) h0
  clear hA0 hval0
  refine (lawRounds_any a cap bs W hs hgood).mono fun e W' ⟨he, bel⟩ => ?_
  subst he
  exact ⟨_, rfl, _, _, _, [], _, [], hW', trodAll_mk1 (shut_bool Try.underlying4 _), (trodAll_cons_mk (Below.trod laidOut (by kernel_rfl) (of_decide_eq_true (by kernel_rfl)) k0 bel lt0) trodAll_mk0), rfl, bel.frame _, fun h => by cases h⟩

theorem rounds_holds : Rows.FnRoundsSaid :=
  OpenClaim.holds_of_wide 10 Try.f10 rfl rfl rfl rfl rfl rfl rfl ⟨rfl, rfl, rfl, rfl, rfl⟩ rfl rfl rfl rfl rfl (by kernel_rfl) Try.func10 (by kernel_rfl)
    (of_decide_eq_true (by kernel_rfl)) (by unfold Func.isWrapper; first | (rw [if_pos (by decide +kernel)]; kernel_rfl) | (rw [if_neg (by decide +kernel)]; exact ⟨rfl, rfl⟩))
    (fun os started H enc _ => lifted_Rounds os started H enc)
end Go.Proofs.Ytpodkgfapbcmlaa
