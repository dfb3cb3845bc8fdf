/- What insertion sort asks of 'swap' is paid by the library's swapper. -/
import Derived.Test.YtpodkgfapbcmlaaStab
namespace Go.Proofs.Ytpodkgfapbcmlaa
open Go.ChangeShapes Go.WideShapes Go.ChangeAt Go.RowKit Go.Sort Go.Lib

theorem swapB_of {α : Type} {P : Program} (gS : Bool) (sf : Nat) (hx : ∀ args W, (callFunc sf args).run P W = ((Extern.ReflectliteSwapper.swap gS args).run P W).andThen fun v w' => .ok (.value v) w')
    (e : TypeId) (ie : TypeInfo) (hie : P.info? e = some ie) (enc : α → List Value) (k : Nat) (hk : ∀ x, (enc x).length = k) (hs : ie.size = k) (hagg : ∀ w, (isAgg e).run P w = .ok true w) (h1 : ∀ x, ∀ v ∈ enc x, v.oneCell' = true) (base blk cap n : Nat) :
    SwapB P sf #[.slice (some ⟨blk, 0, none⟩) n cap, typeHandle P e] enc k base e blk cap n := by
  intro W A B x y hn ho
  subst hs
  have hla : A.length < (A ++ y :: x :: B).length := by simp
  have hlb : A.length + 1 < (A ++ y :: x :: B).length := by simp
  have ex : (A ++ y :: x :: B)[A.length + 1] = x := by simp [List.getElem_append_right]
  have ey : (A ++ y :: x :: B)[A.length] = y := by simp [List.getElem_append_right]
  have := run_swap_cells (P := P) gS e ie hie hagg blk 0 n cap (A.length + 1) A.length (by omega) (by omega) (enc x) (enc y) (hk _) (hk _) (h1 _) (h1 _) W
    (fun u v hv => by
      have := own_cells hk ho hn.symm hlb (j := u) (v := v) (by rw [ex]; exact hv)
      simpa using this)
    (fun u v hv => by
      have := own_cells hk ho hn.symm hla (j := u) (v := v) (by rw [ey]; exact hv)
      simpa using this)
    (fun u hu => by rw [Nat.zero_add]; exact ho.frozenAt _) (fun u hu => by rw [Nat.zero_add]; exact ho.frozenAt _)
  rw [Nat.zero_add, Nat.zero_add] at this
  rw [hx, show (#[Value.int .i64 (A.length + 1 : Nat), Value.int .i64 (A.length : Nat)] ++ #[Value.slice (some ⟨blk, 0, none⟩) n cap, typeHandle P e]) = #[.int .i64 (A.length + 1 : Nat), .int .i64 A.length, .slice (some ⟨blk, 0, none⟩) n cap, typeHandle P e] from rfl, this]
  rfl
end Go.Proofs.Ytpodkgfapbcmlaa
