/- Contract: the 'less' of the program's AddMember. -/
import Derived.Test.YtpodkgfapbcmlaaSwap
import Derived.Test.YtpodkgfapbcmlaaRate
namespace Go.Proofs.Ytpodkgfapbcmlaa
open Go.ChangeShapes Go.WideShapes Go.ChangeAt Go.RowKit Go.Sort

def memLess (x y : Mem) : Bool := Op.bytesLess x.name.toList y.name.toList
set_option maxHeartbeats 2000000 in
theorem addLess_any (ys : List Mem) (i j Bs blk cap : Nat) (hi : i < ys.length) (hj : j < ys.length) (W : World) (hs : W.cell? ⟨Bs, 0, none⟩ = some (.slice (some ⟨blk, 0, none⟩) ys.length cap)) (hc : CellsAt W 2 Mem.enc blk 0 ys) :
    Calls Try.prog 76 #[.int .i64 i, .int .i64 j, .pointer (some ⟨Bs, 0, none⟩)] W fun e w' => e = .returned (.bool (memLess ys[i] ys[j])) ∧ Drew W w' := by
  have ci := hc.at0 hi rfl
  have cj := hc.at0 hj rfl
  rw [Nat.zero_add] at ci cj
  clear hc
  go_enter Try.func76, Try.ntmps76
  go_wp2
  go_quiet (fail)
  go_wp2
  go_ret
  exact ⟨rfl, ⟨nq, rfl⟩⟩
/-- .. and what insertion sort asks of it, the variable that it reads standing in a block ahead. -/
theorem addLessB (Bs blk cap n base : Nat) (w : World) (hs : w.cell? ⟨Bs, 0, none⟩ = some (.slice (some ⟨blk, 0, none⟩) n cap)) (hne : Bs ≠ blk) :
    LessB Try.prog 76 #[.pointer (some ⟨Bs, 0, none⟩)] Mem.enc 2 memLess base 56 blk cap n w := by
  intro W ys i j hi hj hn ho hg
  subst hn
  have h1 := hg.cell hs (fun e => hne (by simpa using e))
  refine (addLess_any ys i j Bs blk cap hi hj W h1 ?_).mono ?_
  · intro a ha b v hv
    rw [Nat.zero_add]
    exact own_cells Mem.enc_len ho rfl ha hv
  · rintro e w' ⟨he, hd⟩
    exact ⟨he, hd.below _⟩
end Go.Proofs.Ytpodkgfapbcmlaa
