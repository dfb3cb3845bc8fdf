/- What the door's rows share: a wrap that hands over the laid things and the world's shape; the world that the door's run leaves. No condition. · The world that the door's run leaves, with Go's tables unicode/utf8.first and unicode.CaseRanges in it; what is laid, met by it. No condition. -/
import Derived.Test.YtjdcdhhbgijaoaaGreatDoorCards
import Derived.Test.YtjdcdhhbgijaoaaGreatDoorFrame
import Derived.Stop.Joined
import Derived.LaidMore
import Derived.Stop.LaidErr
import Derived.MakeChecks
import Derived.SevenTiedAt
import Derived.HandedShaped
import Derived.Lib.LaidU8
import Derived.Test.YtjdcdhhbgijaoaaGreatDoorShq
import Derived.Lib.LaidCaseMet
namespace Go.Proofs.YtjdcdhhbgijaoaaGreatDoor
open Go.ChangeShapes Go.WideShapes Go.ChangeAt Go.RowKit Go.Sort Go.Joins Go.Deep
open Go.ChangeMaps (open_string shut_string)

theorem own : ownKnob Tryz.prog.godebug = none := by kernel_rfl
theorem laidOut : laidOutB Tryz.prog = true := by kernel_rfl
theorem returnsInHanded_of_laid_shaped {H : Type} {enc : TypeId × Value → H} {a : Assume} {C : Checked} {os : Os} {f : FuncId} {fn : Func} {s : ChangeSpec} {conds : List PathCond} {apart fresh handsOn again : Bool} {X : World → Array Value → Prop}
    (hX : ∀ (w w' : World) (args : Array Value), w.heap = w'.heap → X w args → X w' args)
    (own : ownKnob C.prog.godebug = none) (started : os.Started) (noInit : C.prog.inits.idxOf? f = none) (hfn : C.prog.funcs[f]? = some fn)
    (witness : ∃ (w : World) (tape : Tape) (i : Input), w.os = os ∧ (w.forCall tape i).Shaped C.prog ∧ i.vars = [] ∧ Input.okWide C.prog (w.forCall tape i) .any w.heap.size f i ∧
      ((s.pre enc C.prog fn conds apart (w.forCall tape i).memory i.args ∧ X (w.forCall tape i).memory i.args) ∧ sizedMet enc C.prog fn (OpenSpec.ofChange s) apart (w.forCall tape i).memory i.args) ∧ a.holds C.prog (lone (Frame.enter C.prog f i.args .normal) [] (w.forCall tape i)))
    (contract : ∀ (W : World) (base : Nat) (args : Array Value) (ds gs : List (DataW H)) (before : List MemPlace),
      (∀ (j : Nat) t v, fn.params[j]? = some t → args[j]? = some v → Value.okWide C.prog W .any base t v) →
      DataW.Whole enc C.prog fn.params.toList s.vars apart W args.toList ds gs before →
      X W args → W.ShapedOpen C.prog →
      Calls C.prog f args W fun e W' => ∃ v, e = .returned v ∧ s.post enc C.prog fn apart fresh handsOn again W args v W') :
    ReturnsInHanded a C os f .any (fun w args => (s.pre enc C.prog fn conds apart w args ∧ X w args) ∧ sizedMet enc C.prog fn (OpenSpec.ofChange s) apart w args) (s.post enc C.prog fn apart fresh handsOn again) := by
  refine returnsInHanded_of_calls own started noInit witness ?_
  intro w tape i _ hsh _ hok hpre _
  obtain ⟨_, _, _, fn', hfn', _, _, _, _, hval⟩ := hok
  have e : fn' = fn := Option.some.inj (hfn'.symm.trans hfn)
  subst e
  obtain ⟨⟨⟨ds, gs, before, hw, _⟩, hx⟩, _⟩ := hpre
  have hw' := DataW.Whole.of_heap (w' := w.forCall tape i) (by rfl) hw
  refine (contract (w.forCall tape i) w.heap.size i.args ds gs before hval hw' (hX _ _ _ (by rfl) hx) hsh).mono fun e W' ⟨v, he, hp⟩ => ?_
  subst he
  exact ChangeSpec.post_blind hp
/-- The world that the door's run leaves, with Go's table unicode/utf8.first in it. -/
noncomputable def doorFirst (os : Os) : World :=
  { World.doorLaid Tryz.prog 400 os with heap := (World.doorLaid Tryz.prog 400 os).heap.modify 3 fun
    | .cells _ t frozen => .cells (Lib.firstTab.map fun z => Value.int .u8 z).toArray t frozen
    | o => o }
end Go.Proofs.YtjdcdhhbgijaoaaGreatDoor

namespace Go.Proofs.YtjdcdhhbgijaoaaGreatDoor
open Go.ChangeShapes Go.WideShapes Go.ChangeAt Go.RowKit Go.Sort Go.Joins Go.Deep Go.Lib

set_option maxRecDepth 1000000 in
theorem case_eq : (Go.Pinned.caseRanges : DataW Unit) = Lib.caseData := by kernel_rfl
theorem laid_swap {P : Program} {a b c : String × DataW Unit} {w : World} (h : laidMet P [a, b, c] w) : laidMet P [a, c, b] w := by
  obtain ⟨ps, hl, hn, hc⟩ := h
  obtain ⟨n0, d0⟩ := a
  obtain ⟨n1, d1⟩ := b
  obtain ⟨n2, d2⟩ := c
  obtain ⟨g0, t0, cs0, f0, p0, q0, a1, a2, a3, a4, hl1, rfl⟩ := hl
  obtain ⟨g1, t1, cs1, f1, p1, q1, b1, b2, b3, b4, hl2, rfl⟩ := hl1
  obtain ⟨g2, t2, cs2, f2, p2, q2, c1, c2, c3, c4, hl3, rfl⟩ := hl2
  obtain rfl : q2 = [] := hl3
  have hp : (MemPlace.row ⟨g0, 0, none⟩ cs0.size ++ p0 ++ (MemPlace.row ⟨g1, 0, none⟩ cs1.size ++ p1 ++ (MemPlace.row ⟨g2, 0, none⟩ cs2.size ++ p2 ++ []))).Perm (MemPlace.row ⟨g0, 0, none⟩ cs0.size ++ p0 ++ (MemPlace.row ⟨g2, 0, none⟩ cs2.size ++ p2 ++ (MemPlace.row ⟨g1, 0, none⟩ cs1.size ++ p1 ++ []))) := by
    refine List.Perm.append_left _ ?_
    rw [List.append_nil, List.append_nil]
    exact List.perm_append_comm
  exact ⟨_, ⟨g0, t0, cs0, f0, p0, _, a1, a2, a3, a4, ⟨g2, t2, cs2, f2, p2, _, c1, c2, c3, c4, ⟨g1, t1, cs1, f1, p1, [], b1, b2, b3, b4, rfl, rfl⟩, rfl⟩, rfl⟩, hp.nodup_iff.1 hn, fun b off hm => hc b off (hp.mem_iff.2 hm)⟩
theorem n274 : Lays.n274 Tryz.prog Tryz.lays159_ren := { Tryz.lays159 with }
theorem caseExtra : CaseExtra Tryz.prog Tryz.lays159_ren := ⟨by kernel_rfl, by kernel_rfl, by kernel_rfl, by kernel_rfl, by kernel_rfl, by kernel_rfl⟩
def putCells (cs : Array Value) : Obj → Obj
  | .cells _ t frozen => .cells cs t frozen
  | o => o
/-- the door's world, and the two tables -/
noncomputable def doorCase (os : Os) : World :=
  { doorFirst os with heap := ((doorFirst os).heap.modify 1 (putCells #[.slice (some ⟨(doorFirst os).heap.size, 0, none⟩) 336 336])).push (.cells Lib.caseCells5 (Tryz.lays159_ren.t 208) (0, 0)) }
set_option maxRecDepth 1000000 in
theorem door_case_met (os : Os) (args : Array Value) : laidMet Tryz.prog [("unicode/utf8.acceptRanges", Rows.laid_unicode_utf8_acceptRanges), ("unicode.CaseRanges", Rows.laid_unicode_CaseRanges), ("unicode/utf8.first", Rows.laid_unicode_utf8_first)] ((doorCase os).forCall (fun _ _ => 0) ⟨#[], args, []⟩).memory := by
  have := laidMet_with_case (ρ := Tryz.lays159_ren) n274 (Tryz.lays159).t206 caseExtra (w := ((doorCase os).forCall (fun _ _ => 0) ⟨#[], args, []⟩).memory)
    (l := [("unicode/utf8.acceptRanges", Rows.laid_unicode_utf8_acceptRanges), ("unicode/utf8.first", Rows.laid_unicode_utf8_first)])
    10 (by kernel_rfl) (by kernel_rfl) (by kernel_rfl) (doorFirst default).heap.size (Tryz.lays159_ren.t 208) (of_decide_eq_true (by kernel_rfl)) (by kernel_rfl) (by kernel_rfl) (by kernel_rfl)
  rw [show Rows.laid_unicode_CaseRanges = Lib.caseData from case_eq]
  exact laid_swap this
end Go.Proofs.YtjdcdhhbgijaoaaGreatDoor
