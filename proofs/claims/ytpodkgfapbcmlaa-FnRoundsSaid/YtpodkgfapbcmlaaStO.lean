/- Contracts: StandingsOf (program and reference). -/
import Derived.Test.YtpodkgfapbcmlaaStI
import Derived.Test.YtpodkgfapbcmlaaRate
namespace Go.Proofs.Ytpodkgfapbcmlaa
open Go.ChangeShapes Go.WideShapes Go.ChangeAt Go.RowKit Go.Sort

/-- rows in new memory, and a number -/
def RowsCode {α : Type} (w : World) (e : TypeId) (sz : Nat) (enc : α → List Value) (p : List α × Int) (en : Ending) (w' : World) : Prop :=
  ∃ (a : Option Addr) (cap : Nat), en = .returned (.tuple #[.slice a p.1.length cap, .int .i64 p.2]) ∧ w'.ownsRow w.heap.size e sz (.slice a p.1.length cap) p.1.length (p.1.flatMap enc) ∧ Below w.heap.size w w'
set_option maxHeartbeats 2000000 in
theorem StandingsOf_any (ms : List Mem) (rs : List Res) (a ra : Option Addr) (cap rcap : Nat) (w : World) (hm : SliceAt w 2 Mem.enc a ms) (hr : SliceAt w 4 Res.enc ra rs) (hl : ms.length ≤ 1048576) (hlr : rs.length ≤ 1048576) (hf : MemsFit ms) (hfr : ResFit rs) :
    Calls Try.prog 43 #[.agg #[.slice a ms.length cap], .slice ra rs.length rcap] w (RowsCode w 74 4 Std.enc (standingsOf ms rs)) := by
  have HM := Lib.hid hm; clear hm
  have HRS := Lib.hid hr; clear hr
  have HFR := Lib.hid hfr; clear hfr
  have hb : Below w.heap.size w (w.alloc (.cells #[.slice a ms.length cap] 30)) := (Below.refl _ _).alloc (Nat.le_refl _) _
  have c1 := cell_new0 w #[.slice a ms.length cap] 30 (i := 0) (v := .slice a ms.length cap) rfl
  cases hcode : (codeOf ms rs == 0) with
  | false =>
    have hcd : codeOf ms rs ≠ 0 := by simpa using hcode
    have HR := Lib.hid (standingsOf_bad hcd)
    have HCN := Lib.hid hcd
    clear hcode hcd
    go_enter Try.func43, Try.ntmps43
    go_wp2_with fail
    generalize w.alloc (.cells #[.slice a ms.length cap] 30) = w1 at *
    refine (resultsCode_any ms rs a ra cap rcap w1 (HM.out.kept hb) (HRS.out.kept hb) hl hlr hf HFR.out).mono ?_
    rintro e w3 ⟨rfl, hd⟩
    replace hb := hb.trans (hd.mono hb.size)
    clear hd
    obtain ⟨code, hcg⟩ : ∃ code, codeOf ms rs = code := ⟨_, rfl⟩
    have hcn := HCN.out
    rw [hcg] at hcn ⊢
    have HCG := Lib.hid hcg
    clear hcg
    go_wp2
    go_ret2
    rw [HR.out, HCG.out]
    exact ⟨none, 0, rfl, by simpa using World.ownsRow_nil _ w.heap.size 74 4, hb⟩
  | true =>
    have hcd : codeOf ms rs = 0 := by simpa using hcode
    have HR := Lib.hid (standingsOf_ok hcd)
    obtain ⟨z1, z2, z3, z4⟩ := code_zero hcd
    have z12 : ms.length ≤ 12 := by
      simp only [clubOk, Bool.and_eq_true, decide_eq_true_eq] at z1
      exact z1.1
    have H1 := Lib.hid z1
    have H2 := Lib.hid z2
    have H3 := Lib.hid z3
    have HCD := Lib.hid hcd
    clear hcode hcd z1 z2 z3
    go_enter Try.func43, Try.ntmps43
    go_wp2_with fail
    generalize w.alloc (.cells #[.slice a ms.length cap] 30) = w1 at *
    refine (resultsCode_any ms rs a ra cap rcap w1 (HM.out.kept hb) (HRS.out.kept hb) hl hlr hf HFR.out).mono ?_
    rintro e w3 ⟨rfl, hd⟩
    rw [HCD.out]
    replace hb := hb.trans (hd.mono hb.size)
    replace c1 := cell_kept c1 hd
    clear hd
    go_wp2_with fail
    refine (standings_any ms rs a ra cap rcap _ (HM.out.kept hb) (HRS.out.kept hb) H1.out z12 z4 H2.out H3.out).mono ?_
    rintro e w4 ⟨a4, cap4, rfl, ho, hd⟩
    have HO := Lib.hid (own_mono ho hb.size)
    replace hb := hb.trans (hd.mono hb.size)
    clear ho hd
    go_wp2
    go_ret2
    rw [HR.out]
    exact ⟨a4, cap4, rfl, HO.out, hb⟩
set_option maxHeartbeats 2000000 in
theorem specStandingsOf_anyN (ms : List Mem) (rs : List Res) (aq : Option Addr) (ra : Option Addr) (cap rcap : Nat) (w : World) (hm : SliceAt w 2 Mem.enc aq ms) (hn : aq = none → ms = [] ∧ cap = 0) (hr : SliceAt w 4 Res.enc ra rs) (hl : ms.length ≤ 1048576) (hlr : rs.length ≤ 1048576) (hf : MemsFit ms) (hfr : ResFit rs) :
    Calls Try.prog 44 #[.agg #[.slice aq ms.length cap], .slice ra rs.length rcap] w (RowsCode w 74 4 Std.enc (standingsOf ms rs)) := by
  have HM := Lib.hid hm; clear hm
  have HNN := Lib.hid hn; clear hn
  have HRS := Lib.hid hr; clear hr
  have HFR := Lib.hid hfr; clear hfr
  have hb : Below w.heap.size w (w.alloc (.cells #[.slice aq ms.length cap] 30)) := (Below.refl _ _).alloc (Nat.le_refl _) _
  have c1 := cell_new0 w #[.slice aq ms.length cap] 30 (i := 0) (v := .slice aq ms.length cap) rfl
  cases hcode : (codeOf ms rs == 0) with
  | false =>
    have hcd : codeOf ms rs ≠ 0 := by simpa using hcode
    have HR := Lib.hid (standingsOf_bad hcd)
    have HCN := Lib.hid hcd
    clear hcode hcd
    go_enter Try.func44, Try.ntmps44
    go_wp2_with fail
    generalize w.alloc (.cells #[.slice aq ms.length cap] 30) = w1 at *
    refine (l26Code_any ms rs _ 0 aq ra cap rcap w1 c1 (HM.out.kept hb) (HRS.out.kept hb) hl hlr hf HFR.out).mono ?_
    rintro e w3 ⟨rfl, hd0⟩
    have hd := hd0.below w1.heap.size
    clear hd0
    replace hb := hb.trans (hd.mono hb.size)
    clear hd
    obtain ⟨code, hcg⟩ : ∃ code, codeOf ms rs = code := ⟨_, rfl⟩
    have hcn := HCN.out
    rw [hcg] at hcn ⊢
    have HCG := Lib.hid hcg
    clear hcg
    go_wp2
    go_ret2
    rw [HR.out, HCG.out]
    exact ⟨none, 0, rfl, by simpa using World.ownsRow_nil _ w.heap.size 74 4, hb⟩
  | true =>
    have hcd : codeOf ms rs = 0 := by simpa using hcode
    have HR := Lib.hid (standingsOf_ok hcd)
    obtain ⟨z1, z2, z3, z4⟩ := code_zero hcd
    have z12 : ms.length ≤ 12 := by
      simp only [clubOk, Bool.and_eq_true, decide_eq_true_eq] at z1
      exact z1.1
    have H2 := Lib.hid z2
    have HCD := Lib.hid hcd
    clear hcode hcd z1 z2 z3
    go_enter Try.func44, Try.ntmps44
    go_wp2_with fail
    generalize w.alloc (.cells #[.slice aq ms.length cap] 30) = w1 at *
    refine (l26Code_any ms rs _ 0 aq ra cap rcap w1 c1 (HM.out.kept hb) (HRS.out.kept hb) hl hlr hf HFR.out).mono ?_
    rintro e w3 ⟨rfl, hd0⟩
    have hd := hd0.below w1.heap.size
    clear hd0
    rw [HCD.out]
    replace hb := hb.trans (hd.mono hb.size)
    replace c1 := cell_kept c1 hd
    clear hd
    go_wp2_with fail
    refine (l26Table_anyN ms rs _ 0 aq cap ra rcap _ c1 (HM.out.kept hb) HNN.out (HRS.out.kept hb) z12 z4 H2.out).mono ?_
    rintro e w4 ⟨a4, cap4, rfl, ho, hd⟩
    have HO := Lib.hid (own_mono ho hb.size)
    replace hb := hb.trans (hd.mono hb.size)
    clear ho hd
    go_wp2
    go_ret2
    rw [HR.out]
    exact ⟨a4, cap4, rfl, HO.out, hb⟩
theorem specStandingsOf_any (ms : List Mem) (rs : List Res) (ad : Addr) (ra : Option Addr) (cap rcap : Nat) (w : World) (hm : SliceAt w 2 Mem.enc (some ad) ms) (hr : SliceAt w 4 Res.enc ra rs) (hl : ms.length ≤ 1048576) (hlr : rs.length ≤ 1048576) (hf : MemsFit ms) (hfr : ResFit rs) :
    Calls Try.prog 44 #[.agg #[.slice (some ad) ms.length cap], .slice ra rs.length rcap] w (RowsCode w 74 4 Std.enc (standingsOf ms rs)) :=
  specStandingsOf_anyN ms rs (some ad) ra cap rcap w hm (by simp) hr hl hlr hf hfr

end Go.Proofs.Ytpodkgfapbcmlaa
