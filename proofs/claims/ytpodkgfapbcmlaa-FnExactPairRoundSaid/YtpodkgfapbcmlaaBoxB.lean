/- The world behind a floating alloc, as a letter: ahead of a call, and ahead of one operation. No condition. -/
import Derived.Test.YtpodkgfapbcmlaaBox
namespace Go.Proofs.Ytpodkgfapbcmlaa
open Go.ChangeShapes Go.WideShapes Go.ChangeAt Go.RowKit Go.Sort

/-- what is known of new memory -/
def NewAt (X wz : World) (cs : Array Value) : Prop := (∀ i v, cs[i]? = some v → wz.cell? ⟨X.heap.size, i, none⟩ = some v) ∧ (∀ i, wz.frozen? ⟨X.heap.size, i, none⟩ = false) ∧ wz.heap.size = X.heap.size + 1
theorem newAt (X : World) (cs : Array Value) (t : TypeId) : NewAt X (X.alloc (.cells cs t)) cs :=
  ⟨fun _ _ h => cell_new0 X cs t h, fun i => by simp [go_sem], by simp⟩
theorem calls_new {P : Program} {f : FuncId} {args : Array Value} {X : World} {cs : Array Value} {t : TypeId} {Q : Ending → World → Prop}
    (h : ∀ wz, Below X.heap.size X wz → NewAt X wz cs → (∀ base e sz v n L, X.ownsRow base e sz v n L → wz.ownsRow base e sz v n L) → Calls P f args wz Q) : Calls P f args (X.alloc (.cells cs t)) Q :=
  h _ ((Below.refl _ _).alloc (Nat.le_refl _) _) (newAt X cs t) (fun _ _ _ _ _ _ ho => own_alloc ho _)
theorem oper_new {P : Program} {o : Oper} {a : Act} {X : World} {cs : Array Value} {t : TypeId} {K : Act → World → Prop} {Q : Exit → Act → World → Prop}
    (h : ∀ wz, Below X.heap.size X wz → NewAt X wz cs → (∀ base e sz v n L, X.ownsRow base e sz v n L → wz.ownsRow base e sz v n L) → o.wp P a wz K Q) : o.wp P a (X.alloc (.cells cs t)) K Q :=
  h _ ((Below.refl _ _).alloc (Nat.le_refl _) _) (newAt X cs t) (fun _ _ _ _ _ _ ho => own_alloc ho _)
theorem calls_new_drew {P : Program} {f : FuncId} {args : Array Value} {X : World} {cs : Array Value} {t : TypeId} {Q : Ending → World → Prop}
    (h : ∀ wz, Below X.drew.heap.size X.drew wz → NewAt X wz cs → (∀ base e sz v n L, X.drew.ownsRow base e sz v n L → wz.ownsRow base e sz v n L) → Calls P f args wz Q) : Calls P f args (X.alloc (.cells cs t)).drew Q :=
  calls_new (X := X.drew) h
theorem oper_new_drew {P : Program} {o : Oper} {a : Act} {X : World} {cs : Array Value} {t : TypeId} {K : Act → World → Prop} {Q : Exit → Act → World → Prop}
    (h : ∀ wz, Below X.drew.heap.size X.drew wz → NewAt X wz cs → (∀ base e sz v n L, X.drew.ownsRow base e sz v n L → wz.ownsRow base e sz v n L) → o.wp P a wz K Q) : o.wp P a (X.alloc (.cells cs t)).drew K Q :=
  oper_new (X := X.drew) h
/-- two of them -/
theorem calls_new2 {P : Program} {f : FuncId} {args : Array Value} {X : World} {cs ds : Array Value} {t u : TypeId} {Q : Ending → World → Prop}
    (h : ∀ wy, Below X.heap.size X wy → NewAt X wy cs → (∀ base e sz v n L, X.ownsRow base e sz v n L → wy.ownsRow base e sz v n L) → Calls P f args (wy.alloc (.cells ds u)) Q) : Calls P f args ((X.alloc (.cells cs t)).alloc (.cells ds u)) Q :=
  h _ ((Below.refl _ _).alloc (Nat.le_refl _) _) (newAt X cs t) (fun _ _ _ _ _ _ ho => own_alloc ho _)
theorem calls_new2_drew {P : Program} {f : FuncId} {args : Array Value} {X : World} {cs ds : Array Value} {t u : TypeId} {Q : Ending → World → Prop}
    (h : ∀ wy, Below X.drew.heap.size X.drew wy → NewAt X wy cs → (∀ base e sz v n L, X.drew.ownsRow base e sz v n L → wy.ownsRow base e sz v n L) → Calls P f args (wy.alloc (.cells ds u)) Q) : Calls P f args ((X.alloc (.cells cs t)).alloc (.cells ds u)).drew Q :=
  calls_new2 (X := X.drew) (t := t) h
theorem oper_new2 {P : Program} {o : Oper} {a : Act} {X : World} {cs ds : Array Value} {t u : TypeId} {K : Act → World → Prop} {Q : Exit → Act → World → Prop}
    (h : ∀ wy, Below X.heap.size X wy → NewAt X wy cs → (∀ base e sz v n L, X.ownsRow base e sz v n L → wy.ownsRow base e sz v n L) → o.wp P a (wy.alloc (.cells ds u)) K Q) : o.wp P a ((X.alloc (.cells cs t)).alloc (.cells ds u)) K Q :=
  h _ ((Below.refl _ _).alloc (Nat.le_refl _) _) (newAt X cs t) (fun _ _ _ _ _ _ ho => own_alloc ho _)
end Go.Proofs.Ytpodkgfapbcmlaa
