/- The world that the door's run leaves, with Go's tables unicode/utf8.first and unicode.CaseRanges in it; what is laid, met by it. No condition. -/
import Derived.Test.YtpkadgibfmjmcaaGreatDoorDoor
import Derived.Test.YtpkadgibfmjmcaaGreatDoorShq
import Derived.Lib.LaidCaseMet
namespace Go.Proofs.YtpkadgibfmjmcaaGreatDoor
open Go.ChangeShapes Go.WideShapes Go.ChangeAt Go.RowKit Go.Sort Go.Joins Go.Deep Go.Lib

set_option maxRecDepth 1000000 in
theorem case_eq : (Go.Pinned.caseRanges : DataW Unit) = Lib.caseData := by kernel_rfl
theorem laid_swap {P : Program} {a b c : String × DataW Unit} {w : World} (h : laidMet P [a, b, c] w) : laidMet P [a, c, b] w := by
  obtain ⟨ps, hl, hn, hc⟩ := h
  obtain ⟨n0, d0⟩ := a
  obtain ⟨n1, d1⟩ := b
  obtain ⟨n2, d2⟩ := c
  obtain ⟨g0, t0, cs0, f0, p0, q0, a1, a2, a3, a4, hl1, rfl⟩ := hl
  obtain ⟨g1, t1, cs1, f1, p1, q1, b1, b2, b3, b4, hl2, rfl⟩ := hl1
  obtain ⟨g2, t2, cs2, f2, p2, q2, c1, c2, c3, c4, hl3, rfl⟩ := hl2
  obtain rfl : q2 = [] := hl3
  have hp : (MemPlace.row ⟨g0, 0, none⟩ cs0.size ++ p0 ++ (MemPlace.row ⟨g1, 0, none⟩ cs1.size ++ p1 ++ (MemPlace.row ⟨g2, 0, none⟩ cs2.size ++ p2 ++ []))).Perm (MemPlace.row ⟨g0, 0, none⟩ cs0.size ++ p0 ++ (MemPlace.row ⟨g2, 0, none⟩ cs2.size ++ p2 ++ (MemPlace.row ⟨g1, 0, none⟩ cs1.size ++ p1 ++ []))) := by
    refine List.Perm.append_left _ ?_
    rw [List.append_nil, List.append_nil]
    exact List.perm_append_comm
  exact ⟨_, ⟨g0, t0, cs0, f0, p0, _, a1, a2, a3, a4, ⟨g2, t2, cs2, f2, p2, _, c1, c2, c3, c4, ⟨g1, t1, cs1, f1, p1, [], b1, b2, b3, b4, rfl, rfl⟩, rfl⟩, rfl⟩, hp.nodup_iff.1 hn, fun b off hm => hc b off (hp.mem_iff.2 hm)⟩
theorem n274 : Lays.n274 Tryz.prog Tryz.lays159_ren := { Tryz.lays159 with }
theorem caseExtra : CaseExtra Tryz.prog Tryz.lays159_ren := ⟨by kernel_rfl, by kernel_rfl, by kernel_rfl, by kernel_rfl, by kernel_rfl, by kernel_rfl⟩
def putCells (cs : Array Value) : Obj → Obj
  | .cells _ t frozen => .cells cs t frozen
  | o => o
/-- the door's world, and the two tables -/
noncomputable def doorCase (os : Os) : World :=
  { doorFirst os with heap := ((doorFirst os).heap.modify 1 (putCells #[.slice (some ⟨(doorFirst os).heap.size, 0, none⟩) 336 336])).push (.cells Lib.caseCells5 (Tryz.lays159_ren.t 208) (0, 0)) }
set_option maxRecDepth 1000000 in
theorem door_case_met (os : Os) (args : Array Value) : laidMet Tryz.prog [("unicode/utf8.acceptRanges", Rows.laid_unicode_utf8_acceptRanges), ("unicode.CaseRanges", Rows.laid_unicode_CaseRanges), ("unicode/utf8.first", Rows.laid_unicode_utf8_first)] ((doorCase os).forCall (fun _ _ => 0) ⟨#[], args, []⟩).memory := by
  have := laidMet_with_case (ρ := Tryz.lays159_ren) n274 (Tryz.lays159).t206 caseExtra (w := ((doorCase os).forCall (fun _ _ => 0) ⟨#[], args, []⟩).memory)
    (l := [("unicode/utf8.acceptRanges", Rows.laid_unicode_utf8_acceptRanges), ("unicode/utf8.first", Rows.laid_unicode_utf8_first)])
    10 (by kernel_rfl) (by kernel_rfl) (by kernel_rfl) (doorFirst default).heap.size (Tryz.lays159_ren.t 208) (of_decide_eq_true (by kernel_rfl)) (by kernel_rfl) (by kernel_rfl) (by kernel_rfl)
  rw [show Rows.laid_unicode_CaseRanges = Lib.caseData from case_eq]
  exact laid_swap this
end Go.Proofs.YtpkadgibfmjmcaaGreatDoor
