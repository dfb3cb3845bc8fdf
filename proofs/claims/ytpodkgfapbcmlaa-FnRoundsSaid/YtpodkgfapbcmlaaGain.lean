/- The change of a rating: plain arithmetic, and the contracts of the functions that compute it (program and reference). -/
import Derived.Test.YtpodkgfapbcmlaaRes
namespace Go.Proofs.Ytpodkgfapbcmlaa
open Go.ChangeShapes Go.WideShapes Go.ChangeAt Go.RowKit Go.Sort

def minI (a b : Int) : Int := if a < b then a else b
def maxI (a b : Int) : Int := if a > b then a else b
theorem minI_le (a b : Int) : minI a b ≤ a ∧ minI a b ≤ b ∧ (minI a b = a ∨ minI a b = b) := by unfold minI; split <;> omega
theorem maxI_ge (a b : Int) : a ≤ maxI a b ∧ b ≤ maxI a b ∧ (maxI a b = a ∨ maxI a b = b) := by unfold maxI; split <;> omega
def expect (a b : Int) : Int := 2000 + 5 * maxI (-400) (minI 400 (a - b))
def reached (sa sb : Int) : Int := if sa > sb then 4000 else if sa < sb then 0 else 2000
def gain (a b sa sb : Int) : Int :=
  if 32 * (reached sa sb - expect a b) < 0 then -(minI ((-2 * (32 * (reached sa sb - expect a b)) + 4000) / 8000) (minI a (4000 - b)))
  else minI ((2 * (32 * (reached sa sb - expect a b)) + 4000) / 8000) (minI b (4000 - a))
theorem expect_bd (a b : Int) : 0 ≤ expect a b ∧ expect a b ≤ 4000 := by
  unfold expect
  have h1 := minI_le 400 (a - b)
  have h2 := maxI_ge (-400) (minI 400 (a - b))
  omega
theorem reached_bd (sa sb : Int) : 0 ≤ reached sa sb ∧ reached sa sb ≤ 4000 := by unfold reached; split <;> (try split) <;> omega
/-- Both ratings stay within their bounds. -/
theorem gain_bd (a b sa sb : Int) (ha0 : 0 ≤ a) (ha1 : a ≤ 4000) (hb0 : 0 ≤ b) (hb1 : b ≤ 4000) : 0 ≤ a + gain a b sa sb ∧ a + gain a b sa sb ≤ 4000 ∧ 0 ≤ b - gain a b sa sb ∧ b - gain a b sa sb ≤ 4000 := by
  unfold gain
  split
  · have h1 := minI_le ((-2 * (32 * (reached sa sb - expect a b)) + 4000) / 8000) (minI a (4000 - b))
    have h2 := minI_le a (4000 - b)
    have h3 : 0 ≤ (-2 * (32 * (reached sa sb - expect a b)) + 4000) / 8000 := by omega
    omega
  · have h1 := minI_le ((2 * (32 * (reached sa sb - expect a b)) + 4000) / 8000) (minI b (4000 - a))
    have h2 := minI_le b (4000 - a)
    have h3 : 0 ≤ (2 * (32 * (reached sa sb - expect a b)) + 4000) / 8000 := by omega
    omega
theorem l00Max_any (a b : Int) (w : World) : Calls Try.prog 119 #[.int .i64 a, .int .i64 b] w fun e w' => e = .returned (.int .i64 (maxI a b)) ∧ w = w' := by
  go_enter Try.func119, Try.ntmps119
  go_wp2
  all_goals
    go_ret
    exact ⟨ret_int (by unfold maxI; split <;> omega), rfl⟩
theorem l00Min_any (a b : Int) (w : World) : Calls Try.prog 120 #[.int .i64 a, .int .i64 b] w fun e w' => e = .returned (.int .i64 (minI a b)) ∧ w = w' := by
  go_enter Try.func120, Try.ntmps120
  go_wp2
  all_goals
    go_ret
    exact ⟨ret_int (by unfold minI; split <;> omega), rfl⟩
set_option maxHeartbeats 400000 in
theorem l26Expected_any (a b : Int) (w : World) (ha0 : 0 ≤ a) (ha1 : a ≤ 4000) (hb0 : 0 ≤ b) (hb1 : b ≤ 4000) : Calls Try.prog 85 #[.int .i64 a, .int .i64 b] w fun e w' => e = .returned (.int .i64 (expect a b)) ∧ w = w' := by
  have h1 := minI_le 400 (a - b)
  have h2 := maxI_ge (-400) (minI 400 (a - b))
  have h3 : -400 ≤ maxI (-400) (minI 400 (a - b)) ∧ maxI (-400) (minI 400 (a - b)) ≤ 400 := by omega
  obtain ⟨h4, h5⟩ := h3
  clear h1 h2
  go_enter Try.func85, Try.ntmps85
  go_wp2_with (first | (go_at_call 120; refine (l00Min_any _ _ _).mono ?_; rintro e w' ⟨rfl, rfl⟩) | (go_at_call 119; refine (l00Max_any _ _ _).mono ?_; rintro e w' ⟨rfl, rfl⟩))
  go_ret
  exact ⟨rfl, rfl⟩
def clampI (x lo hi : Int) : Int := max lo (min x hi)
set_option maxHeartbeats 400000 in
theorem clamp_any (x lo hi : Int) (w : World) : Calls Try.prog 117 #[.int .i64 x, .int .i64 lo, .int .i64 hi] w fun e w' => e = .returned (.int .i64 (clampI x lo hi)) ∧ w = w' := by
  go_enter Try.func117, Try.ntmps117
  go_wp2
  all_goals
    go_ret
    exact ⟨ret_int (by unfold clampI; omega), rfl⟩
def signI (x : Int) : Int := clampI x (-1) 1
theorem signI_cases (x : Int) : (0 < x ∧ signI x = 1) ∨ (x = 0 ∧ signI x = 0) ∨ (x < 0 ∧ signI x = -1) := by unfold signI clampI; omega
theorem sign_any (x : Int) (w : World) : Calls Try.prog 128 #[.int .i64 x] w fun e w' => e = .returned (.int .i64 (signI x)) ∧ w = w' := by
  go_enter Try.func128, Try.ntmps128
  go_wp2_with (go_at_call 117; refine (clamp_any _ _ _ _).mono ?_; rintro e w' ⟨rfl, rfl⟩)
  go_ret
  exact ⟨rfl, rfl⟩
theorem clamp_expect (a b : Int) : 2000 + 5 * clampI (a - b) (-400) 400 = expect a b := by
  unfold expect clampI maxI minI
  split <;> split <;> omega
set_option maxHeartbeats 400000 in
theorem expected_any (a b : Int) (w : World) (ha0 : 0 ≤ a) (ha1 : a ≤ 4000) (hb0 : 0 ≤ b) (hb1 : b ≤ 4000) : Calls Try.prog 83 #[.int .i64 a, .int .i64 b] w fun e w' => e = .returned (.int .i64 (expect a b)) ∧ w = w' := by
  have h4 : -400 ≤ clampI (a - b) (-400) 400 := by unfold clampI; omega
  have h5 : clampI (a - b) (-400) 400 ≤ 400 := by unfold clampI; omega
  have HE := Lib.hid (clamp_expect a b)
  go_enter Try.func83, Try.ntmps83
  go_wp2_with (go_at_call 117; refine (clamp_any _ _ _ _).mono ?_; rintro e w' ⟨rfl, rfl⟩)
  go_ret
  exact ⟨ret_int HE.out, rfl⟩
/-- The program's way to reckon the change gives the reference's. -/
theorem change_eq (a b sa sb y z : Int) (hy : y = 2000 + 2000 * signI (sa - sb)) (hz : z = 32 * (y - expect a b)) (ha0 : 0 ≤ a) (ha1 : a ≤ 4000) (hb0 : 0 ≤ b) (hb1 : b ≤ 4000) :
    clampI (signI z * ((signI z * z + 2000) / 4000)) (max (-a) (b - 4000)) (min (4000 - a) b) = gain a b sa sb := by
  have hr : y = reached sa sb := by
    unfold reached
    rcases signI_cases (sa - sb) with ⟨h1, h2⟩ | ⟨h1, h2⟩ | ⟨h1, h2⟩ <;> rw [h2] at hy <;> split <;> (try split) <;> omega
  rw [hr] at hz
  clear hy hr
  unfold gain
  rw [← hz]
  have hb := expect_bd a b
  have hc := reached_bd sa sb
  rcases signI_cases z with ⟨h1, h2⟩ | ⟨h1, h2⟩ | ⟨h1, h2⟩ <;> rw [h2]
  · rw [if_neg (by omega)]
    unfold clampI minI
    split <;> split <;> omega
  · rw [if_neg (by omega), h1]
    unfold clampI minI
    split <;> split <;> omega
  · rw [if_pos (by omega)]
    unfold clampI minI
    split <;> split <;> omega
set_option maxHeartbeats 1000000 in
theorem change_any (a b : Int) (r : Res) (w : World) (ha0 : 0 ≤ a) (ha1 : a ≤ 4000) (hb0 : 0 ≤ b) (hb1 : b ≤ 4000) (hs0 : -2000 ≤ r.sa) (hs1 : r.sa ≤ 2000) (ht0 : -2000 ≤ r.sb) (ht1 : r.sb ≤ 2000) :
    Calls Try.prog 109 #[.int .i64 a, .int .i64 b, .agg #[.string r.a, .string r.b, .int .i64 r.sa, .int .i64 r.sb]] w fun e w' => e = .returned (.int .i64 (gain a b r.sa r.sb)) ∧ Below w.heap.size w w' := by
  have HE := Lib.hid (change_eq a b r.sa r.sb _ _ rfl rfl ha0 ha1 hb0 hb1)
  have hx := expect_bd a b
  obtain ⟨hx0, hx1⟩ := hx
  have hsg : -1 ≤ signI (r.sa - r.sb) ∧ signI (r.sa - r.sb) ≤ 1 := by unfold signI clampI; omega
  obtain ⟨hg0, hg1⟩ := hsg
  have hb0' : Below w.heap.size w (w.alloc (.cells #[.string r.a, .string r.b, .int .i64 r.sa, .int .i64 r.sb] 39)) := (Below.refl _ _).alloc (Nat.le_refl _) _
  go_enter Try.func109, Try.ntmps109
  go_wp2_with fail
  refine (sign_any _ _).mono ?_
  rintro e w1 ⟨rfl, rfl⟩
  go_wp2_with fail
  refine (expected_any a b _ ha0 ha1 hb0 hb1).mono ?_
  rintro e w1 ⟨rfl, rfl⟩
  go_wp2_with fail
  have hz : ∃ z : Int, z = 32 * (2000 + 2000 * signI (r.sa - r.sb) - expect a b) := ⟨_, rfl⟩
  obtain ⟨z, hz⟩ := hz
  rw [← hz]
  have HZ := Lib.hid hz
  have hz0 : -128000 ≤ z := by omega
  have hz1 : z ≤ 128000 := by omega
  have hsz := signI_cases z
  have hq0 : -1 ≤ signI z := by omega
  have hq1 : signI z ≤ 1 := by omega
  have hm0 : 0 ≤ signI z * z := by rcases hsz with ⟨h1, h2⟩ | ⟨h1, h2⟩ | ⟨h1, h2⟩ <;> rw [h2] <;> omega
  have hm1 : signI z * z ≤ 128000 := by rcases hsz with ⟨h1, h2⟩ | ⟨h1, h2⟩ | ⟨h1, h2⟩ <;> rw [h2] <;> omega
  have hd0 : -1000 ≤ signI z * ((signI z * z + 2000) / 4000) := by rcases hsz with ⟨h1, h2⟩ | ⟨h1, h2⟩ | ⟨h1, h2⟩ <;> rw [h2] <;> omega
  have hd1 : signI z * ((signI z * z + 2000) / 4000) ≤ 1000 := by rcases hsz with ⟨h1, h2⟩ | ⟨h1, h2⟩ | ⟨h1, h2⟩ <;> rw [h2] <;> omega
  have HF := HE.out
  rw [← HZ.out] at HF
  clear HE
  have HE := Lib.hid HF
  clear HF
  clear hz hsz hx0 hx1 hg0 hg1
  refine (sign_any _ _).mono ?_
  rintro e w1 ⟨rfl, rfl⟩
  go_wp2_with fail
  refine (sign_any _ _).mono ?_
  rintro e w1 ⟨rfl, rfl⟩
  go_wp2_with fail
  all_goals
    refine (clamp_any _ _ _ _).mono ?_
    rintro e w1 ⟨rfl, rfl⟩
    go_wp2
    go_ret
    exact ⟨ret_int (by rw [← HE.out]; congr 1 <;> omega), hb0'⟩

set_option maxHeartbeats 2000000 in
theorem l26Gain_any (a b : Int) (rb ro : Nat) (r : Res) (w : World) (h : ResAt w rb ro r) (ha0 : 0 ≤ a) (ha1 : a ≤ 4000) (hb0 : 0 ≤ b) (hb1 : b ≤ 4000) :
    Calls Try.prog 106 #[.int .i64 a, .int .i64 b, .pointer (some ⟨rb, ro, none⟩)] w fun e w' => e = .returned (.int .i64 (gain a b r.sa r.sb)) ∧ Drew w w' := by
  obtain ⟨_, _, c2, c3⟩ := h
  have hx := expect_bd a b
  obtain ⟨hx0, hx1⟩ := hx
  have HG : Hid (gain a b r.sa r.sb = if 32 * (reached r.sa r.sb - expect a b) < 0 then -(minI ((-2 * (32 * (reached r.sa r.sb - expect a b)) + 4000) / 8000) (minI a (4000 - b))) else minI ((2 * (32 * (reached r.sa r.sb - expect a b)) + 4000) / 8000) (minI b (4000 - a))) := rfl
  by_cases h1 : r.sb < r.sa
  · have hr : Hid (reached r.sa r.sb = 4000) := by unfold Hid reached; rw [if_pos (by omega)]
    have hn : ¬ 32 * (4000 - expect a b) < 0 := by omega
    have HV : Hid (gain a b r.sa r.sb = minI ((2 * (32 * (4000 - expect a b)) + 4000) / 8000) (minI b (4000 - a))) := by unfold Hid; rw [HG.out, hr.out, if_neg hn]
    go_enter Try.func106, Try.ntmps106
    go_wp2_with fail
    go_quiet (fail)
    go_wp2_with (first | (go_at_call 85; refine (l26Expected_any _ _ _ ha0 ha1 hb0 hb1).mono ?_; rintro e w' ⟨rfl, rfl⟩) | (go_at_call 120; refine (l00Min_any _ _ _).mono ?_; rintro e w' ⟨rfl, rfl⟩))
    go_ret
    exact ⟨ret_int (by rw [HV.out]; first | done | (congr 1 <;> omega)), ⟨_, rfl⟩⟩
  · by_cases h2 : r.sa < r.sb
    · have hr : Hid (reached r.sa r.sb = 0) := by unfold Hid reached; rw [if_neg (by omega), if_pos (by omega)]
      by_cases hn : 32 * -expect a b < 0
      · have HV : Hid (gain a b r.sa r.sb = -(minI ((-2 * (32 * -expect a b) + 4000) / 8000) (minI a (4000 - b)))) := by unfold Hid; rw [HG.out, hr.out, Int.zero_sub, if_pos hn]
        have hm := minI_le ((-2 * (32 * -expect a b) + 4000) / 8000) (minI a (4000 - b))
        have hm2 := minI_le a (4000 - b)
        have hmb : -9000 ≤ minI ((-2 * (32 * -expect a b) + 4000) / 8000) (minI a (4000 - b)) ∧ minI ((-2 * (32 * -expect a b) + 4000) / 8000) (minI a (4000 - b)) ≤ 9000 := by omega
        obtain ⟨hmb0, hmb1⟩ := hmb
        clear hm hm2
        go_enter Try.func106, Try.ntmps106
        go_wp2_with fail
        go_quiet (fail)
        go_wp2_with fail
        go_quiet (fail)
        go_wp2_with (first | (go_at_call 85; refine (l26Expected_any _ _ _ ha0 ha1 hb0 hb1).mono ?_; rintro e w' ⟨rfl, rfl⟩) | (go_at_call 120; refine (l00Min_any _ _ _).mono ?_; rintro e w' ⟨rfl, rfl⟩))
        go_ret
        exact ⟨ret_int (by rw [HV.out]; first | done | (congr 1 <;> omega)), ⟨_, rfl⟩⟩
      · have HV : Hid (gain a b r.sa r.sb = minI ((2 * (32 * -expect a b) + 4000) / 8000) (minI b (4000 - a))) := by unfold Hid; rw [HG.out, hr.out, Int.zero_sub, if_neg hn]
        go_enter Try.func106, Try.ntmps106
        go_wp2_with fail
        go_quiet (fail)
        go_wp2_with fail
        go_quiet (fail)
        go_wp2_with (first | (go_at_call 85; refine (l26Expected_any _ _ _ ha0 ha1 hb0 hb1).mono ?_; rintro e w' ⟨rfl, rfl⟩) | (go_at_call 120; refine (l00Min_any _ _ _).mono ?_; rintro e w' ⟨rfl, rfl⟩))
        go_ret
        exact ⟨ret_int (by rw [HV.out]; first | done | (congr 1 <;> omega)), ⟨_, rfl⟩⟩
    · have hr : Hid (reached r.sa r.sb = 2000) := by unfold Hid reached; rw [if_neg (by omega), if_neg (by omega)]
      by_cases hn : 32 * (2000 - expect a b) < 0
      · have HV : Hid (gain a b r.sa r.sb = -(minI ((-2 * (32 * (2000 - expect a b)) + 4000) / 8000) (minI a (4000 - b)))) := by unfold Hid; rw [HG.out, hr.out, if_pos hn]
        have hm := minI_le ((-2 * (32 * (2000 - expect a b)) + 4000) / 8000) (minI a (4000 - b))
        have hm2 := minI_le a (4000 - b)
        have hmb : -9000 ≤ minI ((-2 * (32 * (2000 - expect a b)) + 4000) / 8000) (minI a (4000 - b)) ∧ minI ((-2 * (32 * (2000 - expect a b)) + 4000) / 8000) (minI a (4000 - b)) ≤ 9000 := by omega
        obtain ⟨hmb0, hmb1⟩ := hmb
        clear hm hm2
        go_enter Try.func106, Try.ntmps106
        go_wp2_with fail
        go_quiet (fail)
        go_wp2_with fail
        go_quiet (fail)
        go_wp2_with (first | (go_at_call 85; refine (l26Expected_any _ _ _ ha0 ha1 hb0 hb1).mono ?_; rintro e w' ⟨rfl, rfl⟩) | (go_at_call 120; refine (l00Min_any _ _ _).mono ?_; rintro e w' ⟨rfl, rfl⟩))
        go_ret
        exact ⟨ret_int (by rw [HV.out]; first | done | (congr 1 <;> omega)), ⟨_, rfl⟩⟩
      · have HV : Hid (gain a b r.sa r.sb = minI ((2 * (32 * (2000 - expect a b)) + 4000) / 8000) (minI b (4000 - a))) := by unfold Hid; rw [HG.out, hr.out, if_neg hn]
        go_enter Try.func106, Try.ntmps106
        go_wp2_with fail
        go_quiet (fail)
        go_wp2_with fail
        go_quiet (fail)
        go_wp2_with (first | (go_at_call 85; refine (l26Expected_any _ _ _ ha0 ha1 hb0 hb1).mono ?_; rintro e w' ⟨rfl, rfl⟩) | (go_at_call 120; refine (l00Min_any _ _ _).mono ?_; rintro e w' ⟨rfl, rfl⟩))
        go_ret
        exact ⟨ret_int (by rw [HV.out]; first | done | (congr 1 <;> omega)), ⟨_, rfl⟩⟩
end Go.Proofs.Ytpodkgfapbcmlaa
