/- Contracts: where a member stands (program), RatingOf (program and reference). -/
import Derived.Test.YtpodkgfapbcmlaaClubB
namespace Go.Proofs.Ytpodkgfapbcmlaa
open Go.ChangeShapes Go.WideShapes Go.ChangeAt Go.RowKit Go.Sort

set_option maxHeartbeats 400000 in
theorem member1_any (m : Mem) (nm : ByteArray) (b o : Nat) (w : World) (hp : w.cell? ⟨b, o, none⟩ = some (.string nm)) :
    Calls Try.prog 102 #[.agg #[.string m.name, .int .i64 m.rating], .pointer (some ⟨b, o, none⟩)] w fun e w' => e = .returned (.bool (m.name.toList == nm.toList)) ∧ Below w.heap.size w w' := by
  have hp2 := cell_alloc hp (.cells #[.string m.name, .int .i64 m.rating] 56)
  go_enter Try.func102, Try.ntmps102
  go_wp2
  go_ret
  exact ⟨rfl, (Below.refl _ _).alloc (Nat.le_refl _) _⟩

set_option maxHeartbeats 1000000 in
theorem indexMember_any (ms : List Mem) (nm : ByteArray) (b o : Nat) (a : Option Addr) (cap : Nat) (w : World) (hp : w.cell? ⟨b, o, none⟩ = some (.string nm))
    (hm : SliceAt w 2 Mem.enc a ms) (hl : ms.length ≤ 9223372036854775807) :
    Calls Try.prog 101 #[.slice a ms.length cap, .func (.func 102) #[] #[.pointer (some ⟨b, o, none⟩)]] w fun e w' => e = .returned (.int .i64 (findMem nm ms)) ∧ Below w.heap.size w w' := by
  have HM := Lib.hid hm; clear hm
  go_enter Try.func101, Try.ntmps101
  go_wp2
  go_loopw [8] (fun i wr => ∃ k : Nat, k ≤ ms.length ∧ i = .int .i64 k ∧ findFrom nm (ms.drop k) k = findMem nm ms ∧ Below w.heap.size w wr) (fun i _ => ms.length - (intOf i).toNat)
  case atStart => exact ⟨0, Nat.zero_le _, rfl, rfl, Below.refl _ _⟩
  case round =>
    obtain ⟨k, hk, rfl, hf, hb⟩ := hrel
    have HF := Lib.hid hf; clear hf
    have hpr := cell_kept hp hb
    by_cases hlt : k < ms.length
    · obtain ⟨mb, mo, rfl, hc⟩ := (HM.out.kept hb).open hlt
      have hc0 := hc.at0 hlt rfl
      have hc1 := hc k hlt 1 _ rfl
      clear hc
      go_wp2_with (go_at_call 102; refine (member1_any ms[k] nm b o _ hpr).mono ?_; rintro e w2 ⟨rfl, hb2⟩)
      · go_ret
        exact ⟨ret_int (by rw [← HF.out, findFrom_hit hlt ‹_›]), hb.trans (hb2.mono hb.size)⟩
      · go_roundw
        case rel => exact ⟨k + 1, by omega, by go_num, by rw [findFrom_miss hlt ‹_›]; exact HF.out, hb.trans (hb2.mono hb.size)⟩
        case measure => simp [intOf]; omega
    · go_wp2
      go_ret
      exact ⟨ret_int (by rw [← HF.out, findFrom_end hlt]), hb⟩

set_option maxHeartbeats 400000 in
theorem member_any (ms : List Mem) (nm : ByteArray) (a : Option Addr) (cap : Nat) (w : World) (hm : SliceAt w 2 Mem.enc a ms) (hl : ms.length ≤ 9223372036854775807) :
    Calls Try.prog 62 #[.agg #[.slice a ms.length cap], .string nm] w fun e w' => e = .returned (.int .i64 (findMem nm ms)) ∧ Below w.heap.size w w' := by
  have HM := Lib.hid hm; clear hm
  go_enter Try.func62, Try.ntmps62
  go_wp2_with fail
  have hb : Below w.heap.size w ((w.alloc (.cells #[.slice a ms.length cap] 30)).alloc (.cells #[.string nm] 9)) := ((Below.refl _ _).alloc (Nat.le_refl _) _).alloc (by simp) _
  refine (indexMember_any ms nm _ _ a cap _ ?_ (HM.out.kept hb) hl).mono ?_
  · simp
  rintro e w2 ⟨rfl, hb2⟩
  go_wp2
  go_ret
  exact ⟨rfl, hb.trans (hb2.mono hb.size)⟩

/-- what RatingOf gives -/
def ratingOf (ms : List Mem) (nm : ByteArray) : Int × Int :=
  if clubOk ms = false then (0, 1)
  else if findMem nm ms < 0 then (0, 3)
  else ((ms.getD (findMem nm ms).toNat ⟨nm, 0⟩).rating, 0)

theorem findFrom_bound (nm : ByteArray) (ms : List Mem) (k : Nat) : findFrom nm ms k = -1 ∨ ((k : Int) ≤ findFrom nm ms k ∧ findFrom nm ms k < k + ms.length) := by
  induction ms generalizing k with
  | nil => exact .inl rfl
  | cons m ms ih =>
    unfold findFrom
    split
    · right; simp; omega
    · rcases ih (k + 1) with h | ⟨h1, h2⟩
      · exact .inl h
      · right; simp at *; omega
theorem findMem_bound (nm : ByteArray) (ms : List Mem) : findMem nm ms = -1 ∨ (0 ≤ findMem nm ms ∧ findMem nm ms < ms.length) := by
  rcases findFrom_bound nm ms 0 with h | ⟨h1, h2⟩
  · exact .inl h
  · exact .inr ⟨by simpa [findMem] using h1, by simpa [findMem] using h2⟩
end Go.Proofs.Ytpodkgfapbcmlaa
