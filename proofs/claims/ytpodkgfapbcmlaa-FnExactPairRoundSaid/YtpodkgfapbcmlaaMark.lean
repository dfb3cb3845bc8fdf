/- Contract of the statements' own markText (m and the decimal digits of a number). -/
import Derived.Test.YtpodkgfapbcmlaaText
import Derived.Handy
namespace Go.Proofs.Ytpodkgfapbcmlaa
open Go.ChangeShapes Go.WideShapes Go.ChangeAt Go.RowKit Go.Sort

def mtDig (k : Nat) (out : List UInt8) : List UInt8 :=
  if k = 0 then out else mtDig (k / 10) (UInt8.ofNat (48 + k % 10) :: out)
  termination_by k
  decreasing_by omega
def mtL (k : Nat) : List UInt8 := if k = 0 then [109, 48] else 109 :: mtDig k []
def mtext (k : Nat) : ByteArray := ⟨(mtL k).toArray⟩

theorem bs_app (a b : List UInt8) : (⟨a.toArray⟩ : ByteArray) ++ ⟨b.toArray⟩ = ⟨(a ++ b).toArray⟩ := by
  apply ByteArray.ext
  simp
theorem bs_cons (x : Int) (n : Nat) (out : List UInt8) (h : x.toNat = n) : Value.string (strOfNums [x] ++ ⟨out.toArray⟩) = Value.string ⟨(UInt8.ofNat n :: out).toArray⟩ := by
  subst h
  rw [show strOfNums [x] = ⟨[UInt8.ofNat x.toNat].toArray⟩ from rfl, bs_app]
  rfl
set_option maxRecDepth 100000 in
set_option maxHeartbeats 1000000 in
theorem markText_any (k : Nat) (w : World) (hk : k ≤ 1099511627776) :
    Calls Try.prog 72 #[.int .i64 k] w fun e w' => e = .returned (.string (mtext k)) ∧ Below w.heap.size w w' := by
  by_cases h0 : k = 0
  · subst h0
    go_enter Try.func72, Try.ntmps72
    go_wp2
    go_ret
    exact ⟨rfl, Below.refl _ _⟩
  · have h1 : ¬ (k : Int) ≤ 0 := by omega
    go_enter Try.func72, Try.ntmps72
    go_wp2
    go_loopw [0, 3] (fun a s wr => ∃ (j : Nat) (out : List UInt8), a = .int .i64 j ∧ s = .string ⟨out.toArray⟩ ∧ out.length + j ≤ k ∧ Hid (mtDig j out = mtDig k []) ∧ Below w.heap.size w wr) (fun a _ _ => (intOf a).toNat)
    case atStart => exact ⟨k, [], rfl, rfl, by simp, rfl, Below.refl _ _⟩
    case round =>
      obtain ⟨j, out, rfl, rfl, hj, he, hb⟩ := hrel
      by_cases hp : 0 < j
      · have he2 : mtDig j out = mtDig (j / 10) (UInt8.ofNat (48 + j % 10) :: out) := by rw [mtDig, if_neg (by omega)]
        have HE : Hid (mtDig (j / 10) (UInt8.ofNat (48 + j % 10) :: out) = mtDig k []) := he2.symm.trans he.out
        clear he he2
        have hcv := run_convert_bytes_arg (P := Try.prog) (wr.alloc (.cells #[.int .u8 (48 + (j : Int) % 10)] 5)) 59 5 Try.underlying59 Try.underlying5 wr.heap.size 0 1 1 [48 + (j : Int) % 10] rfl
          (fun i hi => by
            obtain rfl : i = 0 := by omega
            exact cell_new0 _ _ _ rfl) 9 Try.underlying9
        have hlo : ¬ 9223372036854775807 < (strOfNums [48 + (j : Int) % 10]).size + out.length := by
          rw [strOfNums_size]
          simp only [List.length_cons, List.length_nil]
          omega
        go_wp2
        go_roundw
        case rel => exact ⟨j / 10, UInt8.ofNat (48 + j % 10) :: out, by go_num, bs_cons _ _ _ (by omega), by simp only [List.length_cons]; omega, HE, hb.alloc hb.size _⟩
        case measure => simp [intOf]; omega
      · go_wp2
        go_ret
        refine ⟨?_, hb⟩
        obtain rfl : j = 0 := by omega
        have h := he.out
        rw [mtDig, if_pos rfl] at h
        have h2 : mtext k = ⟨#[109]⟩ ++ ⟨out.toArray⟩ := by
          unfold mtext mtL
          rw [if_neg h0, ← h]
          exact (bs_app [109] out).symm
        rw [h2]
        rfl
theorem markText_int (x : Int) (w : World) (h0 : 0 ≤ x) (h1 : x ≤ 1099511627776) :
    Calls Try.prog 72 #[.int .i64 x] w fun e w' => e = .returned (.string (mtext x.toNat)) ∧ Below w.heap.size w w' := by
  obtain ⟨k, rfl⟩ := Int.eq_ofNat_of_zero_le h0
  rw [Int.toNat_natCast]
  exact markText_any k w (by omega)
end Go.Proofs.Ytpodkgfapbcmlaa
