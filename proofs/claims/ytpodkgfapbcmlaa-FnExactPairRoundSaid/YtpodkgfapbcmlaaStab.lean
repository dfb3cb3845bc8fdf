/- Contract: sort.stable_func over fewer than 20 elements. -/
import Derived.Test.YtpodkgfapbcmlaaInsW
namespace Go.Proofs.Ytpodkgfapbcmlaa
open Go.ChangeShapes Go.WideShapes Go.ChangeAt Go.RowKit Go.Sort

theorem LessB.grown {α : Type} {P : Program} {g : Nat} {lb : Array Value} {enc : α → List Value} {k : Nat} {lt : α → α → Bool} {base : Nat} {e : TypeId} {blk cap n : Nat} {w w1 : World}
    (h : LessB P g lb enc k lt base e blk cap n w) (hg : w.grownBy w1 (some blk)) : LessB P g lb enc k lt base e blk cap n w1 :=
  fun W ys i j hi hj hn ho hw => h W ys i j hi hj hn ho (grownBy_trans hg hw)

set_option maxRecDepth 100000 in
set_option maxHeartbeats 4000000 in
theorem stable_any {α : Type} (enc : α → List Value) (k : Nat) (hk : ∀ x, (enc x).length = k) (lt : α → α → Bool) (g : Nat) (lb : Array Value) (sf : Nat) (sb : Array Value) (base : Nat) (e : TypeId) (blk cap : Nat) (xs : List α) (w : World)
    (eg : ∀ args w, (callFunc g args).run Try.prog w = .ok (.enter g args) w) (hless : LessB Try.prog g lb enc k lt base e blk cap xs.length w) (hswap : SwapB Try.prog sf sb enc k base e blk cap xs.length)
    (ho : w.ownsRow base e k (.slice (some ⟨blk, 0, none⟩) xs.length cap) xs.length (xs.flatMap enc)) (h1 : 1 ≤ xs.length) (hn : xs.length < 20) :
    Calls Try.prog 114 #[.agg #[.func (.func g) #[] lb, .func (.func sf) #[] sb], .int .i64 xs.length] w fun en w' => en = .returned (.tuple #[]) ∧
      w'.ownsRow base e k (.slice (some ⟨blk, 0, none⟩) xs.length cap) xs.length ((insSort lt xs).flatMap enc) ∧ w.grownBy w' (some blk) := by
  have hx : Below w.heap.size w (w.alloc (.cells #[.func (.func g) #[] lb, .func (.func sf) #[] sb] 148)) := (Below.refl _ _).alloc (Nat.le_refl _) _
  have hg : w.grownBy (w.alloc (.cells #[.func (.func g) #[] lb, .func (.func sf) #[] sb] 148)) (some blk) := grown_of_below hx
  have hc := Lib.hid (insertionSort_any enc k hk lt g lb sf sb base e blk cap xs _ eg (hless.grown hg) hswap (own_below ho hx) h1 (by omega))
  clear hless hswap ho eg
  go_enter Try.func114, Try.ntmps114
  go_wp2
  refine wp_loop_rounds 1 ?_
  rw [rounds_succ]
  go_wp2_with fail
  refine hc.out.mono ?_
  rintro en w2 ⟨rfl, ho2, hg2⟩
  have HO := Lib.hid ho2
  clear ho2
  go_wp2
  refine wp_loop_rounds 1 ?_
  rw [rounds_succ]
  go_wp2
  all_goals first | (exfalso; omega) | (go_end0; exact ⟨rfl, HO.out, grownBy_trans hg hg2⟩)
end Go.Proofs.Ytpodkgfapbcmlaa
