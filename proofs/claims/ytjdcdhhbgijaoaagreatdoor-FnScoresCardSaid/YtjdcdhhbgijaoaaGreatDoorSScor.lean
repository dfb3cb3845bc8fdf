/- FnScores: the score of a play is the sum of its parts and does not depend on the direction, and without premiums the main word has the value of its letters. The law, lifted. -/
import Derived.Test.YtjdcdhhbgijaoaaGreatDoorRows
import Derived.Test.YtjdcdhhbgijaoaaGreatDoorCards
import Derived.Test.YtjdcdhhbgijaoaaGreatDoorTie
import Derived.Test.YtjdcdhhbgijaoaaGreatDoorLScor
import Derived.Test.YtjdcdhhbgijaoaaGreatDoorCEnv
import Derived.Test.YtjdcdhhbgijaoaaGreatDoorDoor
import Derived.Stop.Joined
import Derived.LaidMore
import Derived.Stop.LaidErr
import Derived.MakeChecks
import Derived.SevenTiedAt
import Derived.HandedShaped
import Derived.Lib.LaidU8
namespace Go.Proofs.YtjdcdhhbgijaoaaGreatDoor
open Go.ChangeShapes Go.WideShapes Go.ChangeAt Go.RowKit Go.Sort Go.Joins Go.Deep
open Go.ChangeMaps (open_string shut_string)

section
variable {H : Type} {ec : TypeId × Value → H} {w : World} {base : Nat} {spare : Nat → Bool} {held : Bool}
set_option maxRecDepth 100000 in
theorem Byt.read (m : Nat) (cs : List Value) (y : DataW H × List MemPlace) (h : DataW.trod ec Tryz.prog w base spare held m 5 cs = some y) : ∃ a : Int, cs = Byt.enc a ∧ (0 ≤ a ∧ a ≤ 255) := by
  obtain ⟨x1, e1, _, hw⟩ := DataW.trod_int Tryz.underlying5 h
  refine ⟨x1, e1, ?_⟩
  have := range_u8 (zs := [x1]) (fun n hn => by rw [List.mem_singleton] at hn; rw [hn]; exact hw) 0
  simpa using this
instance : Inhabited Int := ⟨0⟩
set_option maxRecDepth 100000 in
/-- Bytes that came in. -/
theorem Byt.readS {r : Reach} {b0 : Nat} {v : Value} {d : DataW H} {p : List MemPlace} (hv : Value.okWide Tryz.prog w r b0 22 v) (h : DataW.Trod ec Tryz.prog w base spare held 22 v d p) :
    ∃ (a : Option Addr) (cap : Nat) (bs : List Int), v = .slice a bs.length cap ∧ SliceAt w 1 Byt.enc a bs ∧ (∀ x ∈ bs, 0 ≤ x ∧ x ≤ 255) ∧ bs.length ≤ 9223372036854775807 := by
  obtain ⟨a, n, cap, rfl⟩ := okWide_slice Tryz.underlying22 hv
  obtain ⟨m, hm⟩ := h
  exact read_slice (sz := 1) (enc := Byt.enc) (good := fun x : Int => 0 ≤ x ∧ x ≤ 255) Tryz.underlying22 (by kernel_rfl) (by decide) Byt.read hm
end
theorem cenvScor_of_laid {W : World} (h : laidMetH Tryz.prog Rows.fnScoresRow.laid W) : CEnv W := by
  rw [MakeChecks.laidMetH_plain _ _ _ (by kernel_rfl)] at h
  exact cenv_of_met h (List.mem_cons_self) (List.mem_cons_of_mem _ (List.mem_cons_self)) (List.mem_cons_of_mem _ (List.mem_cons_of_mem _ (List.mem_cons_self)))
set_option maxRecDepth 100000 in
theorem lifted_Scores (os : Os) (started : os.Started) (H : Type) (enc : TypeId × Value → H) :
    ReturnsInHanded {} Tryz.checked os 4 .any (fun w args => (Rows.fnScoresSpec.pre enc Tryz.prog Tryz.f4 [] false w args ∧ laidMetH Tryz.prog Rows.fnScoresRow.laid w) ∧ sizedMet enc Tryz.prog Tryz.f4 (OpenSpec.ofChange Rows.fnScoresSpec) false w args)
      (Rows.fnScoresSpec.post enc Tryz.prog Tryz.f4 false true false false) := by
  refine returnsInHanded_of_laid_shaped (C := Tryz.checked) (X := fun w _ => laidMetH Tryz.prog Rows.fnScoresRow.laid w) (fun _ _ _ hh h => h.of_heap hh) own started (by kernel_rfl) Tryz.func4
    (ChangeSpec.witness_shaped (enc := enc) (C := Tryz.checked) (os := os) (X := fun w _ => laidMetH Tryz.prog Rows.fnScoresRow.laid w) false (doorCase os) #[.slice none 0 0] 8 rfl (World.shaped_of_RefB (by kernel_rfl) (by kernel_rfl)) (by kernel_rfl) (by kernel_rfl) (by kernel_rfl) (laidMetH_of_parts3 (fuel := 8) (door_case_met os _) (by kernel_rfl) (by kernel_rfl))) ?_
  intro W base args ds gs before hval0 hW hL hsh
  have hval : ∀ (j : Nat) t v, Tryz.f4.params[j]? = some t → args[j]? = some v → Value.okWide Tryz.prog W .any base t v := hval0
  have hW' := hW
  obtain ⟨p, q, hA0, hV, rfl, hfz, hnd⟩ := hW
  have hA : DataW.TrodAll enc Tryz.prog W 0 (fun _ => true) true Tryz.f4.params.toList args.toList ds p := hA0
  rw [Tryz.params4] at hA hval
  obtain ⟨v0, vs0, d0, ds0, p0, q0, hargs, rfl, rfl, h0, r0⟩ := trodAll_cons hA
  obtain ⟨rfl, rfl, rfl⟩ := trodAll_nil r0
  obtain rfl : args = #[v0] := by cases args; simp_all
  obtain ⟨rfl, rfl⟩ := trodVars_none hV
  have k0 := h0
  have lt0 : ∀ x ∈ p0, x.block < W.heap.size := by obtain ⟨m, hm⟩ := k0; exact DataW.trod_lt m _ _ _ hm
  obtain ⟨a, cap, bs, rfl, hs, hgood, hlen⟩ := Byt.readS (hval 0 22 v0 rfl rfl) h0
  clear hA0 hval0
  refine (lawScores_any a cap bs W hs hgood (cenvScor_of_laid hL)).mono fun e W' ⟨he, bel⟩ => ?_
  subst he
  exact ⟨_, rfl, _, _, _, [], _, [], hW', trodAll_mk1 (shut_bool Tryz.underlying4 _), (trodAll_cons_mk (Below.trod laidOut (by kernel_rfl) (of_decide_eq_true (by kernel_rfl)) k0 bel lt0) trodAll_mk0), rfl, bel.frame _, fun h => by cases h⟩
end Go.Proofs.YtjdcdhhbgijaoaaGreatDoor
