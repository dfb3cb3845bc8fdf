/- Contracts: the reference's draws for FnRounds. Nothing is said of what is drawn but that it can be read. -/
import Derived.Test.YtpodkgfapbcmlaaDrE
import Derived.Test.YtpodkgfapbcmlaaRdP
import Derived.Test.YtpodkgfapbcmlaaPrF
namespace Go.Proofs.Ytpodkgfapbcmlaa
open Go.ChangeShapes Go.WideShapes Go.ChangeAt Go.RowKit Go.Sort

/-- results and two names that were drawn -/
def HavDrawn (w : World) (e : Ending) (w' : World) : Prop :=
  ∃ (ra : Option Addr) (rcap : Nat) (rs : List Res) (x y : ByteArray), e = .returned (.tuple #[.slice ra rs.length rcap, .string x, .string y]) ∧ SliceAt w' 4 Res.enc ra rs ∧ rs.length ≤ 1000 ∧ Below w.heap.size w w'
set_option maxRecDepth 100000 in
set_option maxHeartbeats 1000000 in
theorem DrawHavePlayed_any (ca : Option Addr) (ccap : Nat) (bs : List Int) (w : World) (hc : CodeAt w w.heap.size ca bs) :
    Calls Try.prog 53 #[.slice ca bs.length ccap] w (HavDrawn w) := by
  have HC := Lib.hid hc
  clear hc
  go_enter Try.func53, Try.ntmps53
  go_wp2_with fail
  refine (l26All_any ca ccap bs w HC.out).mono ?_
  rintro e w2 ⟨a, cap, ms, ra, rcap, rs, rfl, h1, h2, h3, h4, h5, h6, h7, _, _, hb⟩
  have SR := Lib.hid h2
  clear h1 h2 h3 h6 h7
  have hd : Below w2.heap.size w2 (w2.alloc (.cells #[.slice a ms.length cap] 30)) := (Below.refl _ _).alloc (Nat.le_refl _) _
  replace SR := Lib.hid (SR.out.kept hd)
  replace hb := hb.trans (hd.mono hb.size)
  clear hd
  go_wp2_with fail
  generalize w2.alloc (.cells #[.slice a ms.length cap] 30) = w3 at *
  have HC3 : Hid (CodeAt w3 w3.heap.size ca bs) := by
    obtain ⟨c1, c2, c3, c4⟩ := HC.out
    exact Lib.hid ⟨c1.kept hb, c2, c3, fun h0 cb co e => by have := c4 h0 cb co e; have := hb.size; omega⟩
  refine (l00From_any ca ccap bs w3 HC3.out).mono ?_
  rintro e w4 ⟨rfl, h4', s4, hz4⟩
  have hbr := h4'
  have HS := Lib.hid s4
  clear h4' s4 HC HC3
  have hx : Below w4.heap.size w4 (w4.alloc (.cells #[.string ⟨#[97, 120]⟩, .string ⟨#[98, 120]⟩, .string ⟨#[99, 120]⟩, .string ⟨#[100, 120]⟩, .string ⟨#[]⟩] 9)) := (Below.refl _ _).alloc (Nat.le_refl _) _
  have hcn : CellsAt (w4.alloc (.cells #[.string ⟨#[97, 120]⟩, .string ⟨#[98, 120]⟩, .string ⟨#[99, 120]⟩, .string ⟨#[100, 120]⟩, .string ⟨#[]⟩] 9)) 1 Str.enc w4.heap.size 0 [⟨#[97, 120]⟩, ⟨#[98, 120]⟩, ⟨#[99, 120]⟩, ⟨#[100, 120]⟩, ⟨#[]⟩] := cells_new (enc := Str.enc) (fun _ => rfl) w4 [⟨#[97, 120]⟩, ⟨#[98, 120]⟩, ⟨#[99, 120]⟩, ⟨#[100, 120]⟩, ⟨#[]⟩] 9
  replace HS := Lib.hid (HS.out.kept hx)
  replace hbr := hbr.trans (hx.mono hbr.size)
  rw [hz4] at hcn
  have HCN := Lib.hid hcn
  clear hcn hx
  go_wp2_with fail
  refine (text_any [⟨#[97, 120]⟩, ⟨#[98, 120]⟩, ⟨#[99, 120]⟩, ⟨#[100, 120]⟩, ⟨#[]⟩] (w3.heap.size + 1) 5 _ _ _ _ HS.out (by omega) HCN.out (by decide) (by decide) (by omega)).mono ?_
  rintro e w5 ⟨x, _, rfl, s5, g5⟩
  replace HS := Lib.hid s5
  replace hbr := hbr.trans (below_row g5 (Nat.le_refl _) hbr.size)
  replace HCN := Lib.hid (cellsAt_grown HCN.out g5 (by simp))
  clear s5 g5
  go_wp2_with fail
  refine (text_any [⟨#[97, 120]⟩, ⟨#[98, 120]⟩, ⟨#[99, 120]⟩, ⟨#[100, 120]⟩, ⟨#[]⟩] (w3.heap.size + 1) 5 _ _ _ _ HS.out (by omega) HCN.out (by decide) (by decide) (by omega)).mono ?_
  rintro e w6 ⟨y, _, rfl, s6, g6⟩
  replace hbr := hbr.trans (below_row g6 (Nat.le_refl _) hbr.size)
  clear s6 g6 HS HCN
  go_wp2
  go_ret3
  exact ⟨ra, rcap, rs, x, y, rfl, SR.out.kept hbr, h5, hb.trans (hbr.mono hb.size)⟩
/-- The names of a round are names of members, or none. -/
theorem round_fit {ms : List Mem} {rs : List Res} (h : (pairRound ms rs).2 = 0) (hf : MemsFit ms) : ∀ p ∈ (pairRound ms rs).1, p.a.size ≤ 9223372036854775807 ∧ p.b.size ≤ 9223372036854775807 := by
  by_cases hcode : codeOf ms rs = 0
  · obtain ⟨hc, _⟩ := code_zero hcode
    rw [pairRound_ok hcode] at h ⊢
    obtain ⟨g1, _, _⟩ := roundOf_good (names_full rs hc) h
    have hin : ∀ x ∈ flatNames (roundOf rs (namesOf ms rs)).1, x.size ≤ 9223372036854775807 := by
      intro x hx
      obtain ⟨m, hm, rfl⟩ := List.mem_map.1 ((names_perm ms rs).mem_iff.1 (g1.mem_iff.1 hx))
      exact hf m hm
    intro p hp
    have hmem : ∀ x ∈ pairNames p, x ∈ flatNames (roundOf rs (namesOf ms rs)).1 := fun x hx => List.mem_flatMap.2 ⟨p, hp, hx⟩
    refine ⟨hin _ (hmem _ (by unfold pairNames; split <;> simp)), ?_⟩
    cases hb : p.b.toList.isEmpty with
    | true =>
      have : p.b.toList = [] := List.isEmpty_iff.1 hb
      have h2 : p.b.data.toList.length = p.b.size := by simp
      rw [ByteArray.toList_eq] at this
      rw [this] at h2
      simp at h2
      omega
    | false => exact hin _ (hmem _ (by simp [pairNames, hb]))
  · rw [pairRound_bad hcode] at h
    exact absurd h hcode
end Go.Proofs.Ytpodkgfapbcmlaa
