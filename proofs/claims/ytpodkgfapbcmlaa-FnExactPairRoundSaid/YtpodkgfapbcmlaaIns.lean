/- The library's insertion sort over a row of structs that the caller owns, with a 'less' that may lay new blocks. The plain law beside it: insertion from the right. -/
import Derived.Test.YtpodkgfapbcmlaaRow
namespace Go.Proofs.Ytpodkgfapbcmlaa
open Go.ChangeShapes Go.WideShapes Go.ChangeAt Go.RowKit Go.Sort

section
variable {α : Type} {lt : α → α → Bool}
def insRev (lt : α → α → Bool) (x : α) : List α → List α
  | [] => [x]
  | y :: ys => if lt x y = true then y :: insRev lt x ys else x :: y :: ys
/-- x is laid into S, from the right, ahead of all that it is less than -/
def insR (lt : α → α → Bool) (S : List α) (x : α) : List α := (insRev lt x S.reverse).reverse
def insSort (lt : α → α → Bool) (xs : List α) : List α := xs.foldl (insR lt) []
theorem insR_nil (x : α) : insR lt [] x = [x] := rfl
theorem insR_go {A : List α} {x y : α} (h : lt x y = true) : insR lt (A ++ [y]) x = insR lt A x ++ [y] := by simp [insR, insRev, h]
theorem insR_stop {A : List α} {x y : α} (h : lt x y = false) : insR lt (A ++ [y]) x = A ++ [y, x] := by simp [insR, insRev, h]
theorem insRev_len (x : α) (S : List α) : (insRev lt x S).length = S.length + 1 := by
  induction S with
  | nil => rfl
  | cons y ys ih => unfold insRev; split <;> simp [ih]
theorem insR_len (x : α) (S : List α) : (insR lt S x).length = S.length + 1 := by simp [insR, insRev_len]
theorem insSort_succ {xs : List α} {i : Nat} (h : i < xs.length) : insSort lt (xs.take (i + 1)) = insR lt (insSort lt (xs.take i)) xs[i] := by
  unfold insSort
  rw [List.take_succ_eq_append_getElem h, List.foldl_append]
  rfl
theorem insSort_len (xs : List α) : (insSort lt xs).length = xs.length := by
  have : ∀ (xs S : List α), (xs.foldl (insR lt) S).length = S.length + xs.length := by
    intro xs
    induction xs with
    | nil => intro S; simp
    | cons x xs ih => intro S; rw [List.foldl_cons, ih, insR_len]; simp; omega
  simpa [insSort] using this xs []
/-- What is asked of 'less': in every world in which the row lies, and nothing else of old was written. -/
def LessB (P : Program) (g : Nat) (lb : Array Value) (enc : α → List Value) (k : Nat) (lt : α → α → Bool) (base : Nat) (e : TypeId) (blk cap n : Nat) (w0 : World) : Prop :=
  ∀ (W : World) (ys : List α) (i j : Nat) (hi : i < ys.length) (hj : j < ys.length), ys.length = n → W.ownsRow base e k (.slice (some ⟨blk, 0, none⟩) n cap) n (ys.flatMap enc) → w0.grownBy W (some blk) →
    Calls P g (#[.int .i64 i, .int .i64 j] ++ lb) W fun en W' => en = .returned (.bool (lt ys[i] ys[j])) ∧ Below W.heap.size W W'
/-- What is asked of 'swap', at neighbours. -/
def SwapB (P : Program) (sf : Nat) (sb : Array Value) (enc : α → List Value) (k : Nat) (base : Nat) (e : TypeId) (blk cap n : Nat) : Prop :=
  ∀ (W : World) (A B : List α) (x y : α), (A ++ y :: x :: B).length = n → W.ownsRow base e k (.slice (some ⟨blk, 0, none⟩) n cap) n ((A ++ y :: x :: B).flatMap enc) →
    (callFunc sf (#[.int .i64 (A.length + 1 : Nat), .int .i64 A.length] ++ sb)).run P W = .ok (.value (.tuple #[])) ((W.setCells blk ((A.length + 1) * k) (enc y)).setCells blk (A.length * k) (enc x))
theorem storesAt_cells (w : World) (g : Nat) : ∀ (vs : List Value) (p : Nat) (w : World), w.setCells g p vs = storesAt w g p vs
  | [], _, _ => rfl
  | v :: vs, p, w => by rw [World.setCells, storesAt, storesAt_cells w g vs (p + 1)]
/-- Neighbours change places. -/
theorem own_swap {enc : α → List Value} {base : Nat} {e : TypeId} {k blk n cap : Nat} (hk : ∀ x, (enc x).length = k) {A B : List α} {x y : α} {W : World}
    (h : W.ownsRow base e k (.slice (some ⟨blk, 0, none⟩) n cap) n ((A ++ y :: x :: B).flatMap enc)) :
    ((W.setCells blk ((A.length + 1) * k) (enc y)).setCells blk (A.length * k) (enc x)).ownsRow base e k (.slice (some ⟨blk, 0, none⟩) n cap) n ((A ++ x :: y :: B).flatMap enc) ∧
      W.grownBy ((W.setCells blk ((A.length + 1) * k) (enc y)).setCells blk (A.length * k) (enc x)) (some blk) := by
  rw [storesAt_cells W, storesAt_cells W]
  obtain ⟨h1, h2⟩ := own_stores (enc y) ((A.length + 1) * k) h
  obtain ⟨h3, h4⟩ := own_stores (enc x) (A.length * k) h1
  refine ⟨own_as h3 ?_, grownBy_trans h2 h4⟩
  have e1 : (A ++ y :: x :: B).flatMap enc = (A.flatMap enc ++ enc y) ++ (enc x ++ B.flatMap enc) := by simp
  have e2 : (A.flatMap enc ++ enc y).length = (A.length + 1) * k := by rw [List.length_append, flatMap_len hk, hk, Nat.succ_mul]
  rw [e1, setR_append _ _ _ _ e2 (by simp [hk]), hk y, ← hk x, List.drop_left, List.append_assoc, setR_append _ _ _ _ (by rw [flatMap_len hk, hk]) (by simp [hk]), hk x, ← hk y, List.drop_left]
  simp
end
end Go.Proofs.Ytpodkgfapbcmlaa
