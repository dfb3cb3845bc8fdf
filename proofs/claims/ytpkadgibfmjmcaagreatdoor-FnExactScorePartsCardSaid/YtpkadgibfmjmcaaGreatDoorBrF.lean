/- Contracts: the program's reversed strings and small letters of ASCII strings. For strings of at most 2^20 bytes. -/
import Derived.Test.YtpkadgibfmjmcaaGreatDoorBrE
import Derived.Test.YtpkadgibfmjmcaaGreatDoorShq
namespace Go.Proofs.YtpkadgibfmjmcaaGreatDoor
open Go.ChangeShapes Go.WideShapes Go.ChangeAt Go.RowKit Go.Sort

/-! ### Plain -/
/-- the first k and the last k bytes have changed their places -/
def revK (L : List UInt8) (k : Nat) : List UInt8 := (List.range L.length).map fun i => if i < k ∨ L.length - k ≤ i then L.getD (L.length - 1 - i) 0 else L.getD i 0
theorem revK_len (L : List UInt8) (k : Nat) : (revK L k).length = L.length := by simp [revK]
theorem revK_get {L : List UInt8} {k i : Nat} (_h : i < L.length) (h2 : i < (revK L k).length) : (revK L k)[i] = if i < k ∨ L.length - k ≤ i then L.getD (L.length - 1 - i) 0 else L.getD i 0 := by
  simp [revK]
theorem revK_zero (L : List UInt8) : revK L 0 = L := by
  apply List.ext_getElem
  · simp [revK]
  · intro i h1 h2
    rw [revK_get h2 h1, if_neg (by omega), List.getD_eq_getElem?_getD, List.getElem?_eq_getElem h2]
    rfl
theorem revK_end {L : List UInt8} {k : Nat} (h : L.length ≤ 2 * k + 1) : revK L k = L.reverse := by
  apply List.ext_getElem
  · simp [revK]
  · intro i h1 h2
    have h3 : i < L.length := by simpa using h2
    rw [revK_get h3 h1, List.getElem_reverse]
    split
    · rw [List.getD_eq_getElem?_getD, List.getElem?_eq_getElem (by omega)]
      rfl
    · have e : i = L.length - 1 - i := by omega
      rw [List.getD_eq_getElem?_getD, List.getElem?_eq_getElem h3]
      simp only [Option.getD_some]
      congr 1
theorem revK_lo {L : List UInt8} {k : Nat} (h : 2 * k + 1 < L.length) (h2 : k < (revK L k).length) : (revK L k)[k] = L.getD k 0 := by
  rw [revK_get (by omega) h2, if_neg (by omega)]
theorem revK_hi {L : List UInt8} {k : Nat} (h : 2 * k + 1 < L.length) (h2 : L.length - 1 - k < (revK L k).length) : (revK L k)[L.length - 1 - k] = L.getD (L.length - 1 - k) 0 := by
  rw [revK_get (by omega) h2, if_neg (by omega)]
theorem revK_succ {L : List UInt8} {k : Nat} (h : 2 * k + 1 < L.length) : revK L (k + 1) = ((revK L k).set k (L.getD (L.length - 1 - k) 0)).set (L.length - 1 - k) (L.getD k 0) := by
  apply List.ext_getElem
  · simp [revK]
  · intro i h1 h2
    have h3 : i < L.length := by simpa [revK] using h1
    rw [revK_get h3 h1, List.getElem_set, List.getElem_set]
    by_cases e1 : L.length - 1 - k = i
    · rw [if_pos e1, if_pos (by omega)]
      congr 1
      omega
    · rw [if_neg e1]
      by_cases e2 : k = i
      · subst e2
        rw [if_pos (by omega), if_pos rfl]
      · rw [if_neg e2, revK_get h3 (by rw [revK_len]; exact h3)]
        by_cases c : i < k ∨ L.length - k ≤ i
        · rw [if_pos c, if_pos (by omega)]
        · rw [if_neg c, if_neg (by omega)]
theorem getD_u8 {L : List UInt8} {k : Nat} (h : k < L.length) : L.getD k 0 = L[k] := by
  rw [List.getD_eq_getElem?_getD, List.getElem?_eq_getElem h]; rfl
theorem low_eq (c : UInt8) : Lib.lowerB c = lowC c := by
  unfold Lib.lowerB lowC
  have e : Lib.isUpperB c = capB (c.toNat : Int) := by
    unfold Lib.isUpperB capB
    rw [Bool.eq_iff_iff]
    simp only [Bool.and_eq_true, decide_eq_true_eq, UInt8.le_iff_toNat_le]
    have h1 : (65 : UInt8).toNat = 65 := rfl
    have h2 : (90 : UInt8).toNat = 90 := rfl
    rw [h1, h2]
    omega
  rw [e]
theorem lowA_eq (l : List UInt8) : Lib.toLowerA l = lowL l := by
  unfold Lib.toLowerA lowL
  exact List.map_congr_left (fun c _ => low_eq c)

theorem set_cell1 {w : World} {g i j : Nat} {v u : Value} (hne : j ≠ i) (h : w.cell? ⟨g, j, none⟩ = some v) : (w.setCell ⟨g, i, none⟩ u).cell? ⟨g, j, none⟩ = some v := by
  rw [World.cell?_setCell_other _ _ _ _ (fun e => hne (by cases e; rfl)), h]
theorem lower_ascii (s : ByteArray) (w : World) (hs : s.size ≤ 1048576) (ha : ∀ b ∈ s.data.toList, b.toNat < 128) :
    Calls Tryz.prog 180 #[.string s] w fun e w' => e = .returned (.string (mkB (lowL s.data.toList))) ∧ Below w.heap.size w w' := by
  have HS : Hid (∀ W, Calls Tryz.prog 205 #[.string s] W fun e w' => e = .returned (.string (mkB (lowL s.data.toList))) ∧ Below W.heap.size W w') := Lib.hid (fun W => by
    have := Tryz.strings_ToLower_ascii s W (by omega) (fun j b h => ha b (List.mem_of_getElem? h))
    rw [lowA_eq] at this
    exact this)
  clear ha
  go_enter Tryz.func180, Tryz.ntmps180
  go_wp2_with fail
  refine (HS.out _).mono ?_
  rintro e w' ⟨rfl, hd⟩
  go_wp2
  go_ret
  exact ⟨rfl, hd⟩
end Go.Proofs.YtpkadgibfmjmcaaGreatDoor
