/- Contract: sort.SliceStable over Std structs. -/
import Derived.Test.YtpodkgfapbcmlaaStA
import Derived.Test.YtpodkgfapbcmlaaSstLay
namespace Go.Proofs
open Go.Shelf Go.RowKit Go.Lib Go.Sort
namespace Ytpodkgfapbcmlaa
noncomputable def siTStd : TypeInfo := (Try.prog.info? 70).get (by kernel_rfl)
noncomputable def siEStd : TypeInfo := (Try.prog.info? 74).get (by kernel_rfl)
theorem siKStd (n : Nat) (h2 : 2 ≤ n) : Lib.swapperK n siEStd 25 = 9 := by
  have a : siEStd.hasPointers = true := by kernel_rfl
  have b : siEStd.bytes = 40 := by kernel_rfl
  have c : (n == 0) = false := by simp; omega
  have d : (n == 1) = false := by simp; omega
  simp [Lib.swapperK, a, b, c, d]
open Go.ChangeShapes Go.WideShapes Go.ChangeAt Go.RowKit Go.Sort
set_option maxHeartbeats 2000000 in
theorem sortStd_any2 (ms : List Std) (g : Nat) (lb : Array Value) (lt : Std → Std → Bool) (base blk cap : Nat) (w : World) (eg : ∀ args w, (callFunc g args).run Try.prog w = .ok (.enter g args) w)
    (hless : LessB Try.prog g lb Std.enc 4 lt base 74 blk cap ms.length w) (ho : w.ownsRow base 74 4 (.slice (some ⟨blk, 0, none⟩) ms.length cap) ms.length (ms.flatMap Std.enc)) (h2 : 2 ≤ ms.length) (h20 : ms.length < 20) :
    Calls Try.prog 75 #[.iface 70 (.slice (some ⟨blk, 0, none⟩) ms.length cap), .func (.func g) #[] lb] w fun e w' => e = .returned (.tuple #[]) ∧
      w'.ownsRow base 74 4 (.slice (some ⟨blk, 0, none⟩) ms.length cap) ms.length ((insSort lt ms).flatMap Std.enc) ∧ w.grownBy w' (some blk) := by
  refine Any.sort_SliceStable_of_stable sl8 70 74 siTStd siEStd (by kernel_rfl) (by kernel_rfl) (by kernel_rfl) (by kernel_rfl) 25 (fun _ => by kernel_rfl) _ ms.length cap (by omega) 141 (by rw [siKStd _ h2]; kernel_rfl) (.func g) #[] lb w _ ?_
  have hB : sliceBound Try.prog 74 siEStd 25 (some ⟨blk, 0, none⟩) ms.length cap = #[.slice (some ⟨blk, 0, none⟩) ms.length cap, typeHandle Try.prog 74] := by
    unfold sliceBound; rw [if_neg (swapperK_gt _ _ _ h2)]
  rw [hB]
  have hbel : ∀ ρ, Below w.heap.size w (stableWorld Try.prog ρ 70 (some ⟨blk, 0, none⟩) ms.length cap w) := by
    intro ρ
    unfold stableWorld
    exact ((Below.refl _ _).alloc (Nat.le_refl _) _).alloc (by simp) _
  refine (stable_any Std.enc 4 Std.enc_len lt g lb _ _ base 74 blk cap ms _ eg (hless.grown (grown_of_below (hbel _))) (swapB_of false _ (fun args W => run_callFunc_extern Try.func141 (by kernel_rfl) (by kernel_rfl) (by kernel_rfl) (e := Extern.ReflectliteSwapper.swap false) (by kernel_rfl) args W) 74 siEStd (by kernel_rfl) Std.enc 4 Std.enc_len (by kernel_rfl) (fun _ => by kernel_rfl) (fun x v hv => by simp [Std.enc] at hv; rcases hv with rfl | rfl | rfl | rfl <;> rfl) base blk cap ms.length) (own_below ho (hbel _)) (by omega) h20).mono ?_
  rintro e w' ⟨he, ho2, hg⟩
  exact ⟨he, ho2, grownBy_trans (grown_of_below (hbel _)) hg⟩
/-- .. however few -/
theorem sortStd_any (ms : List Std) (g : Nat) (lb : Array Value) (lt : Std → Std → Bool) (base blk cap : Nat) (w : World) (eg : ∀ args w, (callFunc g args).run Try.prog w = .ok (.enter g args) w)
    (hless : LessB Try.prog g lb Std.enc 4 lt base 74 blk cap ms.length w) (ho : w.ownsRow base 74 4 (.slice (some ⟨blk, 0, none⟩) ms.length cap) ms.length (ms.flatMap Std.enc)) (h20 : ms.length < 20) :
    Calls Try.prog 75 #[.iface 70 (.slice (some ⟨blk, 0, none⟩) ms.length cap), .func (.func g) #[] lb] w fun e w' => e = .returned (.tuple #[]) ∧
      w'.ownsRow base 74 4 (.slice (some ⟨blk, 0, none⟩) ms.length cap) ms.length ((insSort lt ms).flatMap Std.enc) ∧ w.grownBy w' (some blk) := by
  by_cases h2 : 2 ≤ ms.length
  · exact sortStd_any2 ms g lb lt base blk cap w eg hless ho h2 h20
  · match ms with
    | [] =>
      refine (Any.sort_SliceStable_tiny sl8 70 74 siTStd siEStd (by kernel_rfl) (by kernel_rfl) (by kernel_rfl) (by kernel_rfl) 25 (fun _ => by kernel_rfl) (some ⟨blk, 0, none⟩) 0 cap (Nat.zero_le _) 133 (by rw [show Lib.swapperK 0 siEStd 25 = 1 from rfl]; kernel_rfl) (.func g) #[] lb w).mono ?_
      rintro e w' ⟨he, os, rfl⟩
      have hb : Below w.heap.size w (grow w os) := below_regrown w w.drawn os
      exact ⟨he, own_below ho hb, grown_of_below hb⟩
    | [m] =>
      refine (Any.sort_SliceStable_tiny sl8 70 74 siTStd siEStd (by kernel_rfl) (by kernel_rfl) (by kernel_rfl) (by kernel_rfl) 25 (fun _ => by kernel_rfl) (some ⟨blk, 0, none⟩) 1 cap (Nat.le_refl _) 134 (by rw [show Lib.swapperK 1 siEStd 25 = 2 from rfl]; kernel_rfl) (.func g) #[] lb w).mono ?_
      rintro e w' ⟨he, os, rfl⟩
      have hb : Below w.heap.size w (grow w os) := below_regrown w w.drawn os
      exact ⟨he, own_below ho hb, grown_of_below hb⟩
    | _ :: _ :: _ => simp at h2
end Ytpodkgfapbcmlaa
end Go.Proofs
