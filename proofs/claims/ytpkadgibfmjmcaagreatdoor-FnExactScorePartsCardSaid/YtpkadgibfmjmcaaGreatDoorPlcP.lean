/- Plain definitions and lemmas: words that are placed; strings.ToLower keeps no string of letters but such of ASCII. No condition. -/
import Derived.Test.YtpkadgibfmjmcaaGreatDoorBdP
import Derived.Test.YtpkadgibfmjmcaaGreatDoorBrI
import Derived.Test.YtpkadgibfmjmcaaGreatDoorLex
import Derived.Lib.MapLaws
import Derived.Lib.TrimAscii
import Derived.Lib.TrimU
import Derived.Shelf.Strings.CaseAny
namespace Go.Proofs.YtpkadgibfmjmcaaGreatDoor
open Go.ChangeShapes Go.WideShapes Go.ChangeAt Go.RowKit Go.Sort

def placedL (l : List UInt8) : Bool := decide (1 ≤ l.length) && decide (l.length ≤ 12) && l.all (fun c => letB c.toNat)
def mainL (l : List UInt8) : Bool := decide (2 ≤ l.length) && placedL l

theorem wide_bad (l : List UInt8) (b : UInt8) (t : List UInt8) (hl : l = b :: t) (hb : 128 ≤ b.toNat) (hw : (Lib.decodeL l).2 = 1) : (Lib.decodeL l).1 = 65533 := by
  subst hl
  unfold Lib.decodeL Utf8.decode at hw ⊢
  have h0 : ((⟨(b :: t).toArray⟩ : ByteArray).get! (0 + 0)).toNat = b.toNat := by rfl
  simp only [h0] at hw ⊢
  rw [if_neg (by omega)] at hw ⊢
  split at hw
  · rw [if_pos ‹_›]
    split at hw
    · simp at hw
    · rename_i h
      rw [if_neg h]
      rfl
  · rw [if_neg ‹_›]
    split at hw
    · rw [if_pos ‹_›]
      split at hw
      · simp at hw
      · rename_i h
        rw [if_neg h]
        rfl
    · rw [if_neg ‹_›]
      split at hw
      · rw [if_pos ‹_›]
        split at hw
        · simp at hw
        · rename_i h
          rw [if_neg h]
          rfl
      · rw [if_neg ‹_›]
        rfl
set_option maxRecDepth 100000 in
theorem low_bad : Lib.toLowerU 65533 = 65533 := by decide +kernel
theorem u8_of {x : Int} (h0 : 0 ≤ x) (h1 : x < 256) : (x.toNat.toUInt8).toNat = x.toNat := by
  rw [Nat.toUInt8]
  simp only [UInt8.toNat_ofNat']
  omega
theorem enc_ascii {r : Int} (h : ∀ b ∈ Lib.encodeRune r, b.toNat < 128) : (Lib.encodeRune r).length = 1 := by
  have hz : ∀ x ∈ Lib.encodeRuneZ r, x < 128 := fun x hx => by
    have h1 := Lib.encodeRuneZ_byte r x hx
    have h2 := h (x.toNat.toUInt8) (by unfold Lib.encodeRune; exact List.mem_map_of_mem hx)
    rw [u8_of h1.1 h1.2] at h2
    omega
  unfold Lib.encodeRune
  rw [List.length_map]
  unfold Lib.encodeRuneZ at hz ⊢
  split
  · rfl
  · rename_i a
    rw [if_neg a] at hz
    split
    · rename_i c
      rw [if_pos c] at hz
      have := hz (192 + r / 64) (by simp)
      omega
    · rename_i c
      rw [if_neg c] at hz
      split
      · rename_i d
        rw [if_pos d] at hz
        have := hz (224 + r / 4096) (by simp)
        omega
      · rename_i d
        rw [if_neg d] at hz
        split
        · rename_i e
          rw [if_pos e] at hz
          have := hz (240 + r / 262144) (by simp)
          omega
        · rename_i e
          rw [if_neg e] at hz
          have := hz 239 (by simp)
          omega
theorem low_wide : ∀ (k : Nat) (l : List UInt8), l.length ≤ k → (∀ b ∈ Lib.mapD Lib.toLowerU l, b.toNat < 128) →
    (Lib.mapD Lib.toLowerU l).length ≤ l.length ∧ ((Lib.mapD Lib.toLowerU l).length = l.length → ∀ b ∈ l, b.toNat < 128)
  | k, [], _, _ => by simp [Lib.mapD, Lib.mapGoD]
  | 0, b :: t, h, _ => by simp at h
  | k + 1, b :: t, hk, ha => by
    have hne : (b :: t : List UInt8) ≠ [] := by simp
    have hw1 := Lib.decodeL_width (b :: t)
    have hw2 := Lib.decodeL_le (b :: t) hne
    have hr := (Lib.toLowerU_range (Lib.decodeL (b :: t)).1 (Lib.decodeL_rune _)).1
    have hst := Lib.mapD_step Lib.toLowerU (b :: t) hne
    rw [if_pos hr] at hst
    rw [hst] at ha ⊢
    have h1 := enc_ascii (fun x hx => ha x (List.mem_append_left _ hx))
    have hd : ((b :: t).drop (Lib.decodeL (b :: t)).2).length = (b :: t).length - (Lib.decodeL (b :: t)).2 := by simp
    have hlen : (b :: t).length ≤ k + 1 := hk
    obtain ⟨i1, i2⟩ := low_wide k ((b :: t).drop (Lib.decodeL (b :: t)).2) (by omega) (fun x hx => ha x (List.mem_append_right _ hx))
    rw [List.length_append, h1]
    refine ⟨by omega, fun he => ?_⟩
    have e1 : (Lib.decodeL (b :: t)).2 = 1 := by omega
    have i3 := i2 (by omega)
    rw [e1, List.drop_succ_cons, List.drop_zero] at i3
    intro x hx
    cases hx with
    | head =>
      by_cases hb : b.toNat < 128
      · exact hb
      · exfalso
        have e2 := wide_bad (b :: t) b t rfl (by omega) e1
        have e3 := ha 239 (by
          rw [e2]
          refine List.mem_append_left _ ?_
          rw [show ((65533 : Nat) : Int) = 65533 from rfl, low_bad]
          decide)
        simp at e3
    | tail _ hx => exact i3 x hx
theorem let_small {c : UInt8} : smallB ((lowC c).toNat : Int) = letB (c.toNat : Int) := by
  cases hc : capB (c.toNat : Int) with
  | true =>
    have h1 := lowC_cap hc
    have h2 := cap_range hc
    unfold letB
    rw [hc, Bool.or_true, h1]
    unfold smallB
    simp only [Bool.and_eq_true, decide_eq_true_eq]
    omega
  | false =>
    rw [lowC_not hc]
    unfold letB
    rw [hc, Bool.or_false]
theorem low_all (l : List UInt8) : (lowL l).all (fun c => smallB c.toNat) = l.all (fun c => letB c.toNat) := by
  unfold lowL
  rw [List.all_map]
  congr 1
  funext c
  exact let_small
/-- the program's test on placed words -/
theorem placed_eq (l : List UInt8) : (wordL (Lib.toLowerD l) && decide ((Lib.toLowerD l).length = l.length)) = placedL l := by
  by_cases ha : ∀ b ∈ l, b.toNat < 128
  · rw [Lib.toLowerD_ascii l ha, lowA_eq]
    have hl : (lowL l).length = l.length := by simp [lowL]
    unfold wordL placedL
    rw [hl, low_all]
    simp
  · have h1 : placedL l = false := by
      cases hp : placedL l with
      | false => rfl
      | true =>
        exfalso
        unfold placedL at hp
        simp only [Bool.and_eq_true, List.all_eq_true] at hp
        exact ha fun b hb => let_ascii (hp.2 b hb)
    rw [h1]
    cases h2 : wordL (Lib.toLowerD l) with
    | false => rfl
    | true =>
      rw [Bool.true_and]
      refine decide_eq_false fun he => ha ?_
      refine (low_wide l.length l (Nat.le_refl _) fun b hb => ?_).2 he
      unfold wordL at h2
      simp only [Bool.and_eq_true, List.all_eq_true] at h2
      have := h2.2 b hb
      unfold smallB at this
      simp only [Bool.and_eq_true, decide_eq_true_eq] at this
      omega
end Go.Proofs.YtpkadgibfmjmcaaGreatDoor
