/- Contracts: whether the last play may be challenged: the program and the reference. Go's tables of unicode and unicode/utf8 hold what is laid (CEnv), internal/bytealg's MaxLen a number (EnvL); texts fit. -/
import Derived.Test.YtofcampipllegaaGreatDoorGmN
namespace Go.Proofs.YtofcampipllegaaGreatDoor
open Go.ChangeShapes Go.WideShapes Go.ChangeAt Go.RowKit Go.Sort

/-- whether the last play may be challenged, of a game that is valid -/
def Gam.may (x : Gam) : Bool := !x.over && (decide (¬ x.setup.rule = 0) && decide (x.last.kind = 1))
def Gam.can (x : Gam) : Bool := x.ok && x.may
theorem may0 {x : Gam} (h : x.over = true) : x.may = false := by unfold Gam.may; rw [h]; rfl
theorem may1 {x : Gam} (h : x.setup.rule = 0) : x.may = false := by unfold Gam.may; rw [h]; simp
theorem may2 {x : Gam} (h : ¬ x.last.kind = 1) : x.may = false := by unfold Gam.may; rw [decide_eq_false h]; simp
theorem may3 {x : Gam} (h : x.over = false) (h1 : ¬ x.setup.rule = 0) (h2 : x.last.kind = 1) : x.may = true := by unfold Gam.may; rw [h, h2, decide_eq_true h1]; rfl
set_option maxRecDepth 100000 in
set_option maxHeartbeats 8000000 in
theorem l19Can_any (x : Gam) (p : GaA) (g : Nat) (w : World) (hg : GAt w g x p) :
  Calls Tryz.prog 91 #[.pointer (some ⟨g, 0, none⟩)] w fun e w' => e = .returned (.bool x.may) ∧ Below w.heap.size w w' := by
 have hlt := hg.lt
 have HG := Lib.hid hg
 have hb : Below w.heap.size w w := Below.refl _ _
 clear hg
 go_enter Tryz.func91, Tryz.ntmps91
 go_upto_region 1 with fail
 have c9 := HG.out.cell (i := 9) rfl
 have c19 := HG.out.cell (i := 19) rfl
 have c29 := HG.out.cell (i := 29) rfl
 cases ho : x.over with
 | true =>
  have HW := Lib.hid (may0 ho)
  rw [ho] at c29
  clear ho
  go_wp2
  go_ret
  exact ⟨ret_bool (by rw [HW.out]), hb⟩
 | false =>
  rw [ho] at c29
  by_cases h1 : x.setup.rule = 0
  ·have HW := Lib.hid (may1 h1)
   have e1 : (x.setup.rule != 0) = false := by rw [h1]; rfl
   clear ho h1
   go_wp2
   go_ret
   exact ⟨ret_bool (by rw [HW.out]), hb⟩
  ·have e1 : (x.setup.rule != 0) = true := by rw [bne_iff_ne]; exact h1
   by_cases h2 : x.last.kind = 1
   ·have HW := Lib.hid (may3 ho h1 h2)
    have e2 : (x.last.kind == 1) = true := by rw [h2]; rfl
    clear ho h1 h2
    go_wp2
    go_ret
    exact ⟨ret_bool (by rw [HW.out]), hb⟩
   ·have HW := Lib.hid (may2 h2)
    have e2 : (x.last.kind == 1) = false := by rw [beq_eq_false_iff_ne]; exact h2
    clear ho h1 h2
    go_wp2
    go_ret
    exact ⟨ret_bool (by rw [HW.out]), hb⟩
set_option maxRecDepth 100000 in
set_option maxHeartbeats 8000000 in
theorem canChallenge_any (x : Gam) (p : GaA) (w : World) (ha : x.At p w) :
  Calls Tryz.prog 93 #[.agg (gcells x p).toArray] w fun e w' => e = .returned (.bool x.may) ∧ Below w.heap.size w w' := by
 have HG := Lib.hid (GAt.new w x p 65 ha)
 have hb : Below w.heap.size w (w.alloc (.cells (gcells x p).toArray 65)) := (Below.refl _ _).alloc (Nat.le_refl _) _
 clear ha
 obtain ⟨cs, hcs⟩ : ∃ cs, cs = gcells x p := ⟨_, rfl⟩
 rw [← hcs]
 rw [← hcs] at HG hb
 clear hcs
 go_enter Tryz.func93, Tryz.ntmps93
 go_upto_region 1 with fail
 generalize w.alloc (.cells cs.toArray 65) = w1 at *
 have c9 := HG.out.cell (i := 9) rfl
 have c19 := HG.out.cell (i := 19) rfl
 have c29 := HG.out.cell (i := 29) rfl
 cases ho : x.over with
 | true =>
  have HW := Lib.hid (may0 ho)
  rw [ho] at c29
  clear ho
  go_wp2
  go_ret
  exact ⟨ret_bool (by rw [HW.out]), hb⟩
 | false =>
  rw [ho] at c29
  by_cases h1 : x.setup.rule = 0
  ·have HW := Lib.hid (may1 h1)
   have e1 : (x.setup.rule != 0) = false := by rw [h1]; rfl
   clear ho h1
   go_wp2
   go_ret
   exact ⟨ret_bool (by rw [HW.out]), hb⟩
  ·have e1 : (x.setup.rule != 0) = true := by rw [bne_iff_ne]; exact h1
   by_cases h2 : x.last.kind = 1
   ·have HW := Lib.hid (may3 ho h1 h2)
    have e2 : (x.last.kind == 1) = true := by rw [h2]; rfl
    clear ho h1 h2
    go_wp2
    go_ret
    exact ⟨ret_bool (by rw [HW.out]), hb⟩
   ·have HW := Lib.hid (may2 h2)
    have e2 : (x.last.kind == 1) = false := by rw [beq_eq_false_iff_ne]; exact h2
    clear ho h1 h2
    go_wp2
    go_ret
    exact ⟨ret_bool (by rw [HW.out]), hb⟩
end Go.Proofs.YtofcampipllegaaGreatDoor
