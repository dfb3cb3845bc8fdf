/- The law of FnRatings: for every code the statement's own function answers true. No condition on the code. -/
import Derived.Test.YtpodkgfapbcmlaaTbL
import Derived.Test.YtpodkgfapbcmlaaRtA
import Derived.Test.YtpodkgfapbcmlaaDrF
import Derived.Test.YtpodkgfapbcmlaaAddI
import Derived.Test.YtpodkgfapbcmlaaAddS
import Derived.Test.YtpodkgfapbcmlaaClubD
namespace Go.Proofs.Ytpodkgfapbcmlaa
open Go.ChangeShapes Go.WideShapes Go.ChangeAt Go.RowKit Go.Sort

theorem rateResult_len2 (ms : List Mem) (r : Res) : (rateResult ms r).1.length ≤ ms.length := by
  by_cases h : codeOf ms [r] = 0
  · rw [rateResult_ok h]; exact Nat.le_of_eq (rateOf_len ms r)
  · rw [rateResult_bad h]; exact Nat.zero_le _
theorem addMember_len2 (ms : List Mem) (m : Mem) : (addMember ms m).1.length ≤ ms.length + 1 := by
  unfold addMember
  repeat' split
  all_goals first | exact Nat.zero_le _ | (rw [addMem_len]; exact Nat.le_refl _)
theorem mem_addMem (ms : List Mem) (m : Mem) : ∀ x ∈ addMem ms m, x = m ∨ x ∈ ms := by
  induction ms with
  | nil => intro x hx; simp [addMem] at hx; exact .inl hx
  | cons y ys ih =>
    intro x hx
    unfold addMem at hx
    split at hx
    · rcases List.mem_cons.1 hx with h | h
      · exact .inl h
      · exact .inr h
    · rcases List.mem_cons.1 hx with h | h
      · exact .inr (by simp [h])
      · rcases ih x h with h | h
        · exact .inl h
        · exact .inr (by simp [h])
theorem CodeAt.below {w w' : World} {N : Nat} {ca : Option Addr} {bs : List Int} (h : CodeAt w N ca bs) (hb : Below w.heap.size w w') (hN : N ≤ w'.heap.size) : CodeAt w' w'.heap.size ca bs := by
  obtain ⟨c1, c2, c3, c4⟩ := h
  exact ⟨c1.kept hb, c2, c3, fun h0 cb co e => by have := c4 h0 cb co e; omega⟩

set_option maxRecDepth 100000 in
set_option maxHeartbeats 16000000 in
theorem lawRatings_any (ca : Option Addr) (ccap : Nat) (bs : List Int) (w : World) (hs : SliceAt w 1 Byt.enc ca bs) (hbd : ∀ x ∈ bs, 0 ≤ x ∧ x ≤ 255) :
    Calls Try.prog 7 #[.slice ca bs.length ccap] w fun e w' => e = .returned (.bool true) ∧ Below w.heap.size w w' := by
  by_cases hbig : 4096 < bs.length
  · have hd : decide ((4096 : Int) < bs.length) = true := by rw [decide_eq_true_eq]; omega
    clear hs hbd
    go_enter Try.func7, Try.ntmps7
    go_wp2_with fail
    refine (f6big_any ca bs.length ccap w).mono ?_
    rintro e w1 ⟨rfl, rfl⟩
    rw [hd]
    go_wp2
    go_ret
    exact ⟨rfl, Below.refl _ _⟩
  · have hd : decide ((4096 : Int) < bs.length) = false := by rw [decide_eq_false_iff_not]; omega
    have HC : Hid (CodeAt w w.heap.size ca bs) := Lib.hid ⟨hs, hbd, by omega, fun h0 cb co e => by
      obtain ⟨b', o', e', hc⟩ := hs.open h0
      rw [e] at e'
      simp only [Option.some.injEq, Addr.mk.injEq, and_true] at e'
      rw [e'.1]
      exact block_lt (hc.at0 h0 rfl)⟩
    clear hs hbd
    go_enter Try.func7, Try.ntmps7
    go_wp2_with fail
    refine (f6big_any ca bs.length ccap w).mono ?_
    rintro e w1 ⟨rfl, rfl⟩
    rw [hd]
    clear hd hbig
    go_wp2_with fail
    refine (DrawRateResult_any ca ccap bs w HC.out).mono ?_
    rintro e w2 ⟨a, cap, ms, r, rfl, h1, h3, h4, h6, h7, hb⟩
    have SM := Lib.hid h1
    have HN := Lib.hid h3
    have HN1 := Lib.hid (fun h => (HN.out h).1)
    have HF := Lib.hid h6
    have HRF := Lib.hid h7
    clear h1 h3 h6 h7
    have hx : Below w2.heap.size w2 ((w2.alloc (.cells #[.slice a ms.length cap] 30)).alloc (.cells #[.string r.a, .string r.b, .int .i64 r.sa, .int .i64 r.sb] 39)) := ((Below.refl _ _).alloc (Nat.le_refl _) _).alloc (by simp) _
    have V3 := Lib.hid ((VarAt.new w2 30 [.slice a ms.length cap]).kept ((Below.refl _ _).alloc (Nat.le_refl _) (.cells #[.string r.a, .string r.b, .int .i64 r.sa, .int .i64 r.sb] 39)))
    have V4 : Hid (VarAt ((w2.alloc (.cells #[.slice a ms.length cap] 30)).alloc (.cells #[.string r.a, .string r.b, .int .i64 r.sa, .int .i64 r.sb] 39)) (w2.heap.size + 1) 39 (resCells r)) := by
      have := VarAt.new (w2.alloc (.cells #[.slice a ms.length cap] 30)) 39 (resCells r)
      simp only [World.size_alloc] at this
      exact Lib.hid this
    replace SM := Lib.hid (SM.out.kept hx)
    replace hb := hb.trans (hx.mono hb.size)
    clear hx
    generalize hB : w2.heap.size = B3 at *
    obtain ⟨w3, hw3⟩ : ∃ w3, (w2.alloc (.cells #[.slice a ms.length cap] 30)).alloc (.cells #[.string r.a, .string r.b, .int .i64 r.sa, .int .i64 r.sb] 39) = w3 := ⟨_, rfl⟩
    rw [hw3] at V3 V4 SM hb
    have c3 := V3.out.cell (i := 0) rfl
    have q0 := V4.out.cell (i := 0) (v := .string r.a) rfl
    have q1 := V4.out.cell (i := 1) (v := .string r.b) rfl
    have q2 := V4.out.cell (i := 2) (v := .int .i64 r.sa) rfl
    have q3 := V4.out.cell (i := 3) (v := .int .i64 r.sb) rfl
    obtain ⟨X, gn, cd, hp⟩ : ∃ X gn cd, rateResult ms r = (X, gn, cd) := ⟨_, _, _, rfl⟩
    have hR := RateResult_any ms r a cap w3 SM.out HN1.out (by omega) HF.out HRF.out
    rw [hp] at hR
    have HR := Lib.hid hR
    have HP := Lib.hid hp
    clear hR hp
    go_wp2_with fail
    clear hw3 hB
    refine HR.out.mono ?_
    rintro e w4 ⟨a4, cap4, rfl, ho, hd⟩
    simp only at ho ⊢
    have SX := Lib.hid (own_slice Mem.enc_len ho rfl)
    clear ho HR
    replace hb := hb.trans ((hd).mono hb.size)
    try replace V3 := Lib.hid (V3.out.kept hd)
    try replace V4 := Lib.hid (V4.out.kept hd)
    try replace V5 := Lib.hid (V5.out.kept hd)
    try replace V8 := Lib.hid (V8.out.kept hd)
    try replace V19 := Lib.hid (V19.out.kept hd)
    try replace V20 := Lib.hid (V20.out.kept hd)
    try replace V21 := Lib.hid (V21.out.kept hd)
    try replace V23 := Lib.hid (V23.out.kept hd)
    try replace SM := Lib.hid (SM.out.kept hd)
    try replace SX := Lib.hid (SX.out.kept hd)
    try replace SX2 := Lib.hid (SX2.out.kept hd)
    try replace SD := Lib.hid (SD.out.kept hd)
    try replace SY := Lib.hid (SY.out.kept hd)
    try replace SY2 := Lib.hid (SY2.out.kept hd)
    try replace c3 := cell_kept c3 hd
    try replace q0 := cell_kept q0 hd
    try replace q1 := cell_kept q1 hd
    try replace q2 := cell_kept q2 hd
    try replace q3 := cell_kept q3 hd
    try replace c5 := cell_kept c5 hd
    try replace c8 := cell_kept c8 hd
    try replace c19 := cell_kept c19 hd
    try replace m0 := cell_kept m0 hd
    try replace m1 := cell_kept m1 hd
    try replace c21 := cell_kept c21 hd
    try replace c23 := cell_kept c23 hd
    clear hd
    have hd : Below w4.heap.size w4 (w4.alloc (.cells #[.slice a4 X.length cap4] 30)) := (Below.refl _ _).alloc (Nat.le_refl _) _
    have V5 := Lib.hid (VarAt.new w4 30 [.slice a4 X.length cap4])
    replace hb := hb.trans ((hd).mono hb.size)
    try replace V3 := Lib.hid (V3.out.kept hd)
    try replace V4 := Lib.hid (V4.out.kept hd)
    try replace V5 := Lib.hid (V5.out.kept hd)
    try replace V8 := Lib.hid (V8.out.kept hd)
    try replace V19 := Lib.hid (V19.out.kept hd)
    try replace V20 := Lib.hid (V20.out.kept hd)
    try replace V21 := Lib.hid (V21.out.kept hd)
    try replace V23 := Lib.hid (V23.out.kept hd)
    try replace SM := Lib.hid (SM.out.kept hd)
    try replace SX := Lib.hid (SX.out.kept hd)
    try replace SX2 := Lib.hid (SX2.out.kept hd)
    try replace SD := Lib.hid (SD.out.kept hd)
    try replace SY := Lib.hid (SY.out.kept hd)
    try replace SY2 := Lib.hid (SY2.out.kept hd)
    try replace c3 := cell_kept c3 hd
    try replace q0 := cell_kept q0 hd
    try replace q1 := cell_kept q1 hd
    try replace q2 := cell_kept q2 hd
    try replace q3 := cell_kept q3 hd
    try replace c5 := cell_kept c5 hd
    try replace c8 := cell_kept c8 hd
    try replace c19 := cell_kept c19 hd
    try replace m0 := cell_kept m0 hd
    try replace m1 := cell_kept m1 hd
    try replace c21 := cell_kept c21 hd
    try replace c23 := cell_kept c23 hd
    clear hd
    generalize hB : w4.heap.size = B5 at *
    obtain ⟨w5, hw⟩ : ∃ wx, w4.alloc (.cells #[.slice a4 X.length cap4] 30) = wx := ⟨_, rfl⟩
    rw [hw] at V5 hb
    try rw [hw] at V3 
    try rw [hw] at V4
    try rw [hw] at V5
    try rw [hw] at V8
    try rw [hw] at V19
    try rw [hw] at V20
    try rw [hw] at V21
    try rw [hw] at SM
    try rw [hw] at SX
    try rw [hw] at SX2
    try rw [hw] at SD
    try rw [hw] at SY
    try rw [hw] at SY2
    try rw [hw] at c3
    try rw [hw] at q0
    try rw [hw] at q1
    try rw [hw] at q2
    try rw [hw] at q3
    try rw [hw] at c5
    try rw [hw] at c8
    try rw [hw] at c19
    try rw [hw] at m0
    try rw [hw] at m1
    try rw [hw] at c21
    have c5 := V5.out.cell (i := 0) rfl
    have hR := specRateResult_any ms r a cap w5 SM.out HN1.out (by omega) HF.out HRF.out
    rw [HP.out] at hR
    have HR := Lib.hid hR
    clear hR
    go_wp2_with fail
    clear hw hB
    refine HR.out.mono ?_
    rintro e w6 ⟨a6, cap6, rfl, ho, hd⟩
    simp only at ho ⊢
    have SX2 := Lib.hid (own_slice Mem.enc_len ho rfl)
    clear ho HR
    replace hb := hb.trans ((hd).mono hb.size)
    try replace V3 := Lib.hid (V3.out.kept hd)
    try replace V4 := Lib.hid (V4.out.kept hd)
    try replace V5 := Lib.hid (V5.out.kept hd)
    try replace V8 := Lib.hid (V8.out.kept hd)
    try replace V19 := Lib.hid (V19.out.kept hd)
    try replace V20 := Lib.hid (V20.out.kept hd)
    try replace V21 := Lib.hid (V21.out.kept hd)
    try replace V23 := Lib.hid (V23.out.kept hd)
    try replace SM := Lib.hid (SM.out.kept hd)
    try replace SX := Lib.hid (SX.out.kept hd)
    try replace SX2 := Lib.hid (SX2.out.kept hd)
    try replace SD := Lib.hid (SD.out.kept hd)
    try replace SY := Lib.hid (SY.out.kept hd)
    try replace SY2 := Lib.hid (SY2.out.kept hd)
    try replace c3 := cell_kept c3 hd
    try replace q0 := cell_kept q0 hd
    try replace q1 := cell_kept q1 hd
    try replace q2 := cell_kept q2 hd
    try replace q3 := cell_kept q3 hd
    try replace c5 := cell_kept c5 hd
    try replace c8 := cell_kept c8 hd
    try replace c19 := cell_kept c19 hd
    try replace m0 := cell_kept m0 hd
    try replace m1 := cell_kept m1 hd
    try replace c21 := cell_kept c21 hd
    try replace c23 := cell_kept c23 hd
    clear hd
    have hd : Below w6.heap.size w6 (w6.alloc (.cells #[.slice a6 X.length cap6] 30)) := (Below.refl _ _).alloc (Nat.le_refl _) _
    have V8 := Lib.hid (VarAt.new w6 30 [.slice a6 X.length cap6])
    replace hb := hb.trans ((hd).mono hb.size)
    try replace V3 := Lib.hid (V3.out.kept hd)
    try replace V4 := Lib.hid (V4.out.kept hd)
    try replace V5 := Lib.hid (V5.out.kept hd)
    try replace V8 := Lib.hid (V8.out.kept hd)
    try replace V19 := Lib.hid (V19.out.kept hd)
    try replace V20 := Lib.hid (V20.out.kept hd)
    try replace V21 := Lib.hid (V21.out.kept hd)
    try replace V23 := Lib.hid (V23.out.kept hd)
    try replace SM := Lib.hid (SM.out.kept hd)
    try replace SX := Lib.hid (SX.out.kept hd)
    try replace SX2 := Lib.hid (SX2.out.kept hd)
    try replace SD := Lib.hid (SD.out.kept hd)
    try replace SY := Lib.hid (SY.out.kept hd)
    try replace SY2 := Lib.hid (SY2.out.kept hd)
    try replace c3 := cell_kept c3 hd
    try replace q0 := cell_kept q0 hd
    try replace q1 := cell_kept q1 hd
    try replace q2 := cell_kept q2 hd
    try replace q3 := cell_kept q3 hd
    try replace c5 := cell_kept c5 hd
    try replace c8 := cell_kept c8 hd
    try replace c19 := cell_kept c19 hd
    try replace m0 := cell_kept m0 hd
    try replace m1 := cell_kept m1 hd
    try replace c21 := cell_kept c21 hd
    try replace c23 := cell_kept c23 hd
    clear hd
    generalize hB : w6.heap.size = B8 at *
    obtain ⟨w7, hw⟩ : ∃ wx, w6.alloc (.cells #[.slice a6 X.length cap6] 30) = wx := ⟨_, rfl⟩
    rw [hw] at V8 hb
    try rw [hw] at V3 
    try rw [hw] at V4
    try rw [hw] at V5
    try rw [hw] at V8
    try rw [hw] at V19
    try rw [hw] at V20
    try rw [hw] at V21
    try rw [hw] at SM
    try rw [hw] at SX
    try rw [hw] at SX2
    try rw [hw] at SD
    try rw [hw] at SY
    try rw [hw] at SY2
    try rw [hw] at c3
    try rw [hw] at q0
    try rw [hw] at q1
    try rw [hw] at q2
    try rw [hw] at q3
    try rw [hw] at c5
    try rw [hw] at c8
    try rw [hw] at c19
    try rw [hw] at m0
    try rw [hw] at m1
    try rw [hw] at c21
    have c8 := V8.out.cell (i := 0) rfl
    go_wp2_with fail
    clear hw hB
    refine (DrawExpectedOf_any ca ccap bs w7 (HC.out.below hb hb.size)).mono ?_
    rintro e w8 ⟨x, y, rfl, hd⟩
    replace hb := hb.trans ((hd).mono hb.size)
    try replace V3 := Lib.hid (V3.out.kept hd)
    try replace V4 := Lib.hid (V4.out.kept hd)
    try replace V5 := Lib.hid (V5.out.kept hd)
    try replace V8 := Lib.hid (V8.out.kept hd)
    try replace V19 := Lib.hid (V19.out.kept hd)
    try replace V20 := Lib.hid (V20.out.kept hd)
    try replace V21 := Lib.hid (V21.out.kept hd)
    try replace V23 := Lib.hid (V23.out.kept hd)
    try replace SM := Lib.hid (SM.out.kept hd)
    try replace SX := Lib.hid (SX.out.kept hd)
    try replace SX2 := Lib.hid (SX2.out.kept hd)
    try replace SD := Lib.hid (SD.out.kept hd)
    try replace SY := Lib.hid (SY.out.kept hd)
    try replace SY2 := Lib.hid (SY2.out.kept hd)
    try replace c3 := cell_kept c3 hd
    try replace q0 := cell_kept q0 hd
    try replace q1 := cell_kept q1 hd
    try replace q2 := cell_kept q2 hd
    try replace q3 := cell_kept q3 hd
    try replace c5 := cell_kept c5 hd
    try replace c8 := cell_kept c8 hd
    try replace c19 := cell_kept c19 hd
    try replace m0 := cell_kept m0 hd
    try replace m1 := cell_kept m1 hd
    try replace c21 := cell_kept c21 hd
    try replace c23 := cell_kept c23 hd
    clear hd
    obtain ⟨E, o1, hE⟩ : ∃ E o1, expectedOf x y = (E, o1) := ⟨_, _, rfl⟩
    obtain ⟨F, o3, hF⟩ : ∃ F o3, expectedOf y x = (F, o3) := ⟨_, _, rfl⟩
    have hsw := expectedOf_swap x y
    have b1 := expectedOf_bd x y
    have b2 := expectedOf_bd y x
    rw [hE, hF] at hsw
    rw [hE] at b1
    rw [hF] at b2
    simp only at hsw b1 b2
    obtain ⟨rfl, hs4⟩ := hsw
    have HS4 := Lib.hid hs4
    obtain ⟨b10, b11⟩ := b1
    obtain ⟨b20, b21⟩ := b2
    have e1 := ExpectedOf_any x y w8
    have e2 := specExpectedOf_any x y w8
    have e3 := ExpectedOf_any y x w8
    rw [hE] at e1 e2
    rw [hF] at e3
    have E1 := Lib.hid e1
    have E2 := Lib.hid e2
    have E3 := Lib.hid e3
    clear e1 e2 e3 hE hF hs4
    go_wp2_with fail
    refine E1.out.mono ?_
    rintro e w9 ⟨rfl, rfl⟩
    go_wp2_with fail
    refine E2.out.mono ?_
    rintro e w9 ⟨rfl, rfl⟩
    go_wp2_with fail
    refine E3.out.mono ?_
    rintro e w9 ⟨rfl, rfl⟩
    clear E1 E2 E3
    go_wp2_with fail
    refine (DrawAddMember_any ca ccap bs w8 (HC.out.below hb hb.size)).mono ?_
    rintro e w9 ⟨da, dcap, dm, m, rfl, h1, h3, h5, h6, h7, hd⟩
    replace hb := hb.trans ((hd).mono hb.size)
    try replace V3 := Lib.hid (V3.out.kept hd)
    try replace V4 := Lib.hid (V4.out.kept hd)
    try replace V5 := Lib.hid (V5.out.kept hd)
    try replace V8 := Lib.hid (V8.out.kept hd)
    try replace V19 := Lib.hid (V19.out.kept hd)
    try replace V20 := Lib.hid (V20.out.kept hd)
    try replace V21 := Lib.hid (V21.out.kept hd)
    try replace V23 := Lib.hid (V23.out.kept hd)
    try replace SM := Lib.hid (SM.out.kept hd)
    try replace SX := Lib.hid (SX.out.kept hd)
    try replace SX2 := Lib.hid (SX2.out.kept hd)
    try replace SD := Lib.hid (SD.out.kept hd)
    try replace SY := Lib.hid (SY.out.kept hd)
    try replace SY2 := Lib.hid (SY2.out.kept hd)
    try replace c3 := cell_kept c3 hd
    try replace q0 := cell_kept q0 hd
    try replace q1 := cell_kept q1 hd
    try replace q2 := cell_kept q2 hd
    try replace q3 := cell_kept q3 hd
    try replace c5 := cell_kept c5 hd
    try replace c8 := cell_kept c8 hd
    try replace c19 := cell_kept c19 hd
    try replace m0 := cell_kept m0 hd
    try replace m1 := cell_kept m1 hd
    try replace c21 := cell_kept c21 hd
    try replace c23 := cell_kept c23 hd
    have SD := Lib.hid h1
    have HDN := Lib.hid h3
    have HDF := Lib.hid h6
    have HMF := Lib.hid h7
    clear hd h1 h3 h6 h7 HC
    have hd : Below w9.heap.size w9 ((w9.alloc (.cells #[.slice da dm.length dcap] 30)).alloc (.cells #[.string m.name, .int .i64 m.rating] 56)) := ((Below.refl _ _).alloc (Nat.le_refl _) _).alloc (by simp) _
    have V19 := Lib.hid ((VarAt.new w9 30 [.slice da dm.length dcap]).kept ((Below.refl _ _).alloc (Nat.le_refl _) (.cells #[.string m.name, .int .i64 m.rating] 56)))
    have V20 : Hid (VarAt ((w9.alloc (.cells #[.slice da dm.length dcap] 30)).alloc (.cells #[.string m.name, .int .i64 m.rating] 56)) (w9.heap.size + 1) 56 [.string m.name, .int .i64 m.rating]) := by
      have := VarAt.new (w9.alloc (.cells #[.slice da dm.length dcap] 30)) 56 [.string m.name, .int .i64 m.rating]
      simp only [World.size_alloc] at this
      exact Lib.hid this
    replace hb := hb.trans (hd.mono hb.size)
    replace V3 := Lib.hid (V3.out.kept hd)
    replace V4 := Lib.hid (V4.out.kept hd)
    replace V5 := Lib.hid (V5.out.kept hd)
    replace V8 := Lib.hid (V8.out.kept hd)
    replace SM := Lib.hid (SM.out.kept hd)
    replace SX := Lib.hid (SX.out.kept hd)
    replace SX2 := Lib.hid (SX2.out.kept hd)
    replace SD := Lib.hid (SD.out.kept hd)
    replace c3 := cell_kept c3 hd
    replace q0 := cell_kept q0 hd
    replace q1 := cell_kept q1 hd
    replace q2 := cell_kept q2 hd
    replace q3 := cell_kept q3 hd
    replace c5 := cell_kept c5 hd
    replace c8 := cell_kept c8 hd
    clear hd
    generalize hB : w9.heap.size = B19 at *
    obtain ⟨wA, hw⟩ : ∃ wA, (w9.alloc (.cells #[.slice da dm.length dcap] 30)).alloc (.cells #[.string m.name, .int .i64 m.rating] 56) = wA := ⟨_, rfl⟩
    rw [hw] at V19 V20 V3 V4 V5 V8 SM SX SX2 SD c3 q0 q1 q2 q3 c5 c8 hb
    have c19 := V19.out.cell (i := 0) rfl
    have m0 := V20.out.cell (i := 0) rfl
    have m1 := V20.out.cell (i := 1) rfl
    obtain ⟨Y, c4, hY⟩ : ∃ Y c4, addMember dm m = (Y, c4) := ⟨_, _, rfl⟩
    have hR := AddMember_anyN dm m da dcap wA SD.out HDN.out (by omega) HDF.out HMF.out
    rw [hY] at hR
    have HR := Lib.hid hR
    have HY := Lib.hid hY
    clear hR hY
    go_wp2_with fail
    clear hw hB
    refine HR.out.mono ?_
    rintro e wB ⟨a8, cap8, rfl, ho, hd⟩
    simp only at ho ⊢
    have SY := Lib.hid (own_slice Mem.enc_len ho rfl)
    clear ho HR
    replace hb := hb.trans ((hd).mono hb.size)
    try replace V3 := Lib.hid (V3.out.kept hd)
    try replace V4 := Lib.hid (V4.out.kept hd)
    try replace V5 := Lib.hid (V5.out.kept hd)
    try replace V8 := Lib.hid (V8.out.kept hd)
    try replace V19 := Lib.hid (V19.out.kept hd)
    try replace V20 := Lib.hid (V20.out.kept hd)
    try replace V21 := Lib.hid (V21.out.kept hd)
    try replace V23 := Lib.hid (V23.out.kept hd)
    try replace SM := Lib.hid (SM.out.kept hd)
    try replace SX := Lib.hid (SX.out.kept hd)
    try replace SX2 := Lib.hid (SX2.out.kept hd)
    try replace SD := Lib.hid (SD.out.kept hd)
    try replace SY := Lib.hid (SY.out.kept hd)
    try replace SY2 := Lib.hid (SY2.out.kept hd)
    try replace c3 := cell_kept c3 hd
    try replace q0 := cell_kept q0 hd
    try replace q1 := cell_kept q1 hd
    try replace q2 := cell_kept q2 hd
    try replace q3 := cell_kept q3 hd
    try replace c5 := cell_kept c5 hd
    try replace c8 := cell_kept c8 hd
    try replace c19 := cell_kept c19 hd
    try replace m0 := cell_kept m0 hd
    try replace m1 := cell_kept m1 hd
    try replace c21 := cell_kept c21 hd
    try replace c23 := cell_kept c23 hd
    clear hd
    have hd : Below wB.heap.size wB (wB.alloc (.cells #[.slice a8 Y.length cap8] 30)) := (Below.refl _ _).alloc (Nat.le_refl _) _
    have V21 := Lib.hid (VarAt.new wB 30 [.slice a8 Y.length cap8])
    replace hb := hb.trans ((hd).mono hb.size)
    try replace V3 := Lib.hid (V3.out.kept hd)
    try replace V4 := Lib.hid (V4.out.kept hd)
    try replace V5 := Lib.hid (V5.out.kept hd)
    try replace V8 := Lib.hid (V8.out.kept hd)
    try replace V19 := Lib.hid (V19.out.kept hd)
    try replace V20 := Lib.hid (V20.out.kept hd)
    try replace V21 := Lib.hid (V21.out.kept hd)
    try replace V23 := Lib.hid (V23.out.kept hd)
    try replace SM := Lib.hid (SM.out.kept hd)
    try replace SX := Lib.hid (SX.out.kept hd)
    try replace SX2 := Lib.hid (SX2.out.kept hd)
    try replace SD := Lib.hid (SD.out.kept hd)
    try replace SY := Lib.hid (SY.out.kept hd)
    try replace SY2 := Lib.hid (SY2.out.kept hd)
    try replace c3 := cell_kept c3 hd
    try replace q0 := cell_kept q0 hd
    try replace q1 := cell_kept q1 hd
    try replace q2 := cell_kept q2 hd
    try replace q3 := cell_kept q3 hd
    try replace c5 := cell_kept c5 hd
    try replace c8 := cell_kept c8 hd
    try replace c19 := cell_kept c19 hd
    try replace m0 := cell_kept m0 hd
    try replace m1 := cell_kept m1 hd
    try replace c21 := cell_kept c21 hd
    try replace c23 := cell_kept c23 hd
    clear hd
    generalize hB : wB.heap.size = B21 at *
    obtain ⟨wC, hw⟩ : ∃ wx, wB.alloc (.cells #[.slice a8 Y.length cap8] 30) = wx := ⟨_, rfl⟩
    rw [hw] at V21 hb
    try rw [hw] at V3 
    try rw [hw] at V4
    try rw [hw] at V5
    try rw [hw] at V8
    try rw [hw] at V19
    try rw [hw] at V20
    try rw [hw] at V21
    try rw [hw] at SM
    try rw [hw] at SX
    try rw [hw] at SX2
    try rw [hw] at SD
    try rw [hw] at SY
    try rw [hw] at SY2
    try rw [hw] at c3
    try rw [hw] at q0
    try rw [hw] at q1
    try rw [hw] at q2
    try rw [hw] at q3
    try rw [hw] at c5
    try rw [hw] at c8
    try rw [hw] at c19
    try rw [hw] at m0
    try rw [hw] at m1
    try rw [hw] at c21
    have c21 := V21.out.cell (i := 0) rfl
    have hR := specAddMember_anyN dm m da dcap wC SD.out HDN.out (by omega) HDF.out HMF.out
    rw [HY.out] at hR
    have HR := Lib.hid hR
    clear hR
    go_wp2_with fail
    clear hw hB
    refine HR.out.mono ?_
    rintro e wD ⟨a9, cap9, rfl, ho, hd⟩
    simp only at ho ⊢
    have SY2 := Lib.hid (own_slice Mem.enc_len ho rfl)
    clear ho HR
    replace hb := hb.trans ((hd).mono hb.size)
    try replace V3 := Lib.hid (V3.out.kept hd)
    try replace V4 := Lib.hid (V4.out.kept hd)
    try replace V5 := Lib.hid (V5.out.kept hd)
    try replace V8 := Lib.hid (V8.out.kept hd)
    try replace V19 := Lib.hid (V19.out.kept hd)
    try replace V20 := Lib.hid (V20.out.kept hd)
    try replace V21 := Lib.hid (V21.out.kept hd)
    try replace V23 := Lib.hid (V23.out.kept hd)
    try replace SM := Lib.hid (SM.out.kept hd)
    try replace SX := Lib.hid (SX.out.kept hd)
    try replace SX2 := Lib.hid (SX2.out.kept hd)
    try replace SD := Lib.hid (SD.out.kept hd)
    try replace SY := Lib.hid (SY.out.kept hd)
    try replace SY2 := Lib.hid (SY2.out.kept hd)
    try replace c3 := cell_kept c3 hd
    try replace q0 := cell_kept q0 hd
    try replace q1 := cell_kept q1 hd
    try replace q2 := cell_kept q2 hd
    try replace q3 := cell_kept q3 hd
    try replace c5 := cell_kept c5 hd
    try replace c8 := cell_kept c8 hd
    try replace c19 := cell_kept c19 hd
    try replace m0 := cell_kept m0 hd
    try replace m1 := cell_kept m1 hd
    try replace c21 := cell_kept c21 hd
    try replace c23 := cell_kept c23 hd
    clear hd
    have hd : Below wD.heap.size wD (wD.alloc (.cells #[.slice a9 Y.length cap9] 30)) := (Below.refl _ _).alloc (Nat.le_refl _) _
    have V23 := Lib.hid (VarAt.new wD 30 [.slice a9 Y.length cap9])
    replace hb := hb.trans ((hd).mono hb.size)
    try replace V3 := Lib.hid (V3.out.kept hd)
    try replace V4 := Lib.hid (V4.out.kept hd)
    try replace V5 := Lib.hid (V5.out.kept hd)
    try replace V8 := Lib.hid (V8.out.kept hd)
    try replace V19 := Lib.hid (V19.out.kept hd)
    try replace V20 := Lib.hid (V20.out.kept hd)
    try replace V21 := Lib.hid (V21.out.kept hd)
    try replace V23 := Lib.hid (V23.out.kept hd)
    try replace SM := Lib.hid (SM.out.kept hd)
    try replace SX := Lib.hid (SX.out.kept hd)
    try replace SX2 := Lib.hid (SX2.out.kept hd)
    try replace SD := Lib.hid (SD.out.kept hd)
    try replace SY := Lib.hid (SY.out.kept hd)
    try replace SY2 := Lib.hid (SY2.out.kept hd)
    try replace c3 := cell_kept c3 hd
    try replace q0 := cell_kept q0 hd
    try replace q1 := cell_kept q1 hd
    try replace q2 := cell_kept q2 hd
    try replace q3 := cell_kept q3 hd
    try replace c5 := cell_kept c5 hd
    try replace c8 := cell_kept c8 hd
    try replace c19 := cell_kept c19 hd
    try replace m0 := cell_kept m0 hd
    try replace m1 := cell_kept m1 hd
    try replace c21 := cell_kept c21 hd
    try replace c23 := cell_kept c23 hd
    clear hd
    generalize hB : wD.heap.size = B23 at *
    obtain ⟨wE, hw⟩ : ∃ wx, wD.alloc (.cells #[.slice a9 Y.length cap9] 30) = wx := ⟨_, rfl⟩
    rw [hw] at V23 hb
    try rw [hw] at V3 
    try rw [hw] at V4
    try rw [hw] at V5
    try rw [hw] at V8
    try rw [hw] at V19
    try rw [hw] at V20
    try rw [hw] at V21
    try rw [hw] at SM
    try rw [hw] at SX
    try rw [hw] at SX2
    try rw [hw] at SD
    try rw [hw] at SY
    try rw [hw] at SY2
    try rw [hw] at c3
    try rw [hw] at q0
    try rw [hw] at q1
    try rw [hw] at q2
    try rw [hw] at q3
    try rw [hw] at c5
    try rw [hw] at c8
    try rw [hw] at c19
    try rw [hw] at m0
    try rw [hw] at m1
    try rw [hw] at c21
    have c23 := V23.out.cell (i := 0) rfl
    have HXL : Hid (X.length ≤ 1048576) := Lib.hid (by have := rateResult_len2 ms r; rw [HP.out] at this; simp only at this; omega)
    have HYL : Hid (Y.length ≤ 1048576) := Lib.hid (by have := addMember_len2 dm m; rw [HY.out] at this; simp only at this; omega)
    go_upto_region 13 with fail
    clear hw hB
    have HZ1 : Hid (o3 = 0 → IntKind.i64.wrap (E + F) = 4000) := Lib.hid (fun h => by rw [HS4.out h]; exact IntWalk.i64_in _ (by decide))
    go_cut [149] (fun s149 wx => s149 = .bool false ∧ Below wE.heap.size wE wx)
    case first =>
      cases hv : clubOk ms with
      | false =>
        have HV1 : Hid (∀ wx, SliceAt wx 2 Mem.enc a ms → Calls Try.prog 40 #[.agg #[.slice a ms.length cap]] wx fun e w' => e = .returned (.bool false) ∧ Below wx.heap.size wx w') := Lib.hid (fun wx h => by have := ValidClub_any ms a cap wx h (by omega) HF.out; rwa [hv] at this)
        have HV2 : Hid (∀ wx, SliceAt wx 2 Mem.enc a ms → Calls Try.prog 41 #[.agg #[.slice a ms.length cap]] wx fun e w' => e = .returned (.bool false) ∧ Below wx.heap.size wx w') := Lib.hid (fun wx h => by have := specValidClub_any ms a cap wx h (by omega) HF.out; rwa [hv] at this)
        clear hv
        by_cases ho : o3 = 0
        · subst ho
          have hz1 := HZ1.out rfl
          have e5 := cell_regrown c5
          have e8 := cell_regrown c8
          have e21 := cell_regrown c21
          have e23 := cell_regrown c23
          have e3 := cell_regrown c3
          refine wp_region_quiet_below (by kernel_rfl) (by kernel_rfl) ?_
          repeat (go_big_quiet_step ((first
            | (go_at_call_of 39 (Value.agg #[Value.slice a4 X.length cap4]); exact Calls.regrown_of (sameClub_any X a4 a6 cap4 cap6 _ (SX.out.kept (below_regrown _ _ _)) (SX2.out.kept (below_regrown _ _ _)) HXL.out))
            | (go_at_call_of 39 (Value.agg #[Value.slice a8 Y.length cap8]); exact Calls.regrown_of (sameClub_any Y a8 a9 cap8 cap9 _ (SY.out.kept (below_regrown _ _ _)) (SY2.out.kept (below_regrown _ _ _)) HYL.out))
            | (go_at_call 40; exact Calls.regrown_of (HV1.out _ (SM.out.kept (below_regrown _ _ _))))
            | (go_at_call 41; exact Calls.regrown_of (HV2.out _ (SM.out.kept (below_regrown _ _ _)))))))
          refine wpQuiet_nil ?_
          intro _ hw'
          obtain ⟨⟨dq, oq⟩, hw''⟩ := hw'
          subst hw''
          have hfin := Lib.hid (below_regrown wE dq oq)
          go_wp2_with fail
          go_meet
          exact ⟨rfl, hfin.out⟩
        · have hz1 : (o3 == 0) = false := by simpa using ho
          clear ho
          have e5 := cell_regrown c5
          have e8 := cell_regrown c8
          have e21 := cell_regrown c21
          have e23 := cell_regrown c23
          have e3 := cell_regrown c3
          refine wp_region_quiet_below (by kernel_rfl) (by kernel_rfl) ?_
          repeat (go_big_quiet_step ((first
            | (go_at_call_of 39 (Value.agg #[Value.slice a4 X.length cap4]); exact Calls.regrown_of (sameClub_any X a4 a6 cap4 cap6 _ (SX.out.kept (below_regrown _ _ _)) (SX2.out.kept (below_regrown _ _ _)) HXL.out))
            | (go_at_call_of 39 (Value.agg #[Value.slice a8 Y.length cap8]); exact Calls.regrown_of (sameClub_any Y a8 a9 cap8 cap9 _ (SY.out.kept (below_regrown _ _ _)) (SY2.out.kept (below_regrown _ _ _)) HYL.out))
            | (go_at_call 40; exact Calls.regrown_of (HV1.out _ (SM.out.kept (below_regrown _ _ _))))
            | (go_at_call 41; exact Calls.regrown_of (HV2.out _ (SM.out.kept (below_regrown _ _ _)))))))
          refine wpQuiet_nil ?_
          intro _ hw'
          obtain ⟨⟨dq, oq⟩, hw''⟩ := hw'
          subst hw''
          have hfin := Lib.hid (below_regrown wE dq oq)
          go_wp2_with fail
          go_meet
          exact ⟨rfl, hfin.out⟩
      | true =>
        have HV1 : Hid (∀ wx, SliceAt wx 2 Mem.enc a ms → Calls Try.prog 40 #[.agg #[.slice a ms.length cap]] wx fun e w' => e = .returned (.bool true) ∧ Below wx.heap.size wx w') := Lib.hid (fun wx h => by have := ValidClub_any ms a cap wx h (by omega) HF.out; rwa [hv] at this)
        have HV2 : Hid (∀ wx, SliceAt wx 2 Mem.enc a ms → Calls Try.prog 41 #[.agg #[.slice a ms.length cap]] wx fun e w' => e = .returned (.bool true) ∧ Below wx.heap.size wx w') := Lib.hid (fun wx h => by have := specValidClub_any ms a cap wx h (by omega) HF.out; rwa [hv] at this)
        clear hv
        by_cases ho : o3 = 0
        · subst ho
          have hz1 := HZ1.out rfl
          have e5 := cell_regrown c5
          have e8 := cell_regrown c8
          have e21 := cell_regrown c21
          have e23 := cell_regrown c23
          have e3 := cell_regrown c3
          refine wp_region_quiet_below (by kernel_rfl) (by kernel_rfl) ?_
          repeat (go_big_quiet_step ((first
            | (go_at_call_of 39 (Value.agg #[Value.slice a4 X.length cap4]); exact Calls.regrown_of (sameClub_any X a4 a6 cap4 cap6 _ (SX.out.kept (below_regrown _ _ _)) (SX2.out.kept (below_regrown _ _ _)) HXL.out))
            | (go_at_call_of 39 (Value.agg #[Value.slice a8 Y.length cap8]); exact Calls.regrown_of (sameClub_any Y a8 a9 cap8 cap9 _ (SY.out.kept (below_regrown _ _ _)) (SY2.out.kept (below_regrown _ _ _)) HYL.out))
            | (go_at_call 40; exact Calls.regrown_of (HV1.out _ (SM.out.kept (below_regrown _ _ _))))
            | (go_at_call 41; exact Calls.regrown_of (HV2.out _ (SM.out.kept (below_regrown _ _ _)))))))
          refine wpQuiet_nil ?_
          intro _ hw'
          obtain ⟨⟨dq, oq⟩, hw''⟩ := hw'
          subst hw''
          have hfin := Lib.hid (below_regrown wE dq oq)
          go_wp2_with fail
          go_meet
          exact ⟨rfl, hfin.out⟩
        · have hz1 : (o3 == 0) = false := by simpa using ho
          clear ho
          have e5 := cell_regrown c5
          have e8 := cell_regrown c8
          have e21 := cell_regrown c21
          have e23 := cell_regrown c23
          have e3 := cell_regrown c3
          refine wp_region_quiet_below (by kernel_rfl) (by kernel_rfl) ?_
          repeat (go_big_quiet_step ((first
            | (go_at_call_of 39 (Value.agg #[Value.slice a4 X.length cap4]); exact Calls.regrown_of (sameClub_any X a4 a6 cap4 cap6 _ (SX.out.kept (below_regrown _ _ _)) (SX2.out.kept (below_regrown _ _ _)) HXL.out))
            | (go_at_call_of 39 (Value.agg #[Value.slice a8 Y.length cap8]); exact Calls.regrown_of (sameClub_any Y a8 a9 cap8 cap9 _ (SY.out.kept (below_regrown _ _ _)) (SY2.out.kept (below_regrown _ _ _)) HYL.out))
            | (go_at_call 40; exact Calls.regrown_of (HV1.out _ (SM.out.kept (below_regrown _ _ _))))
            | (go_at_call 41; exact Calls.regrown_of (HV2.out _ (SM.out.kept (below_regrown _ _ _)))))))
          refine wpQuiet_nil ?_
          intro _ hw'
          obtain ⟨⟨dq, oq⟩, hw''⟩ := hw'
          subst hw''
          have hfin := Lib.hid (below_regrown wE dq oq)
          go_wp2_with fail
          go_meet
          exact ⟨rfl, hfin.out⟩
    case rest =>
      generalize wc = wF at *
      obtain ⟨rfl, hd⟩ := hcut
      replace hb := hb.trans ((hd).mono hb.size)
      try replace V3 := Lib.hid (V3.out.kept hd)
      try replace V4 := Lib.hid (V4.out.kept hd)
      try replace V5 := Lib.hid (V5.out.kept hd)
      try replace V8 := Lib.hid (V8.out.kept hd)
      try replace V19 := Lib.hid (V19.out.kept hd)
      try replace V20 := Lib.hid (V20.out.kept hd)
      try replace V21 := Lib.hid (V21.out.kept hd)
      try replace V23 := Lib.hid (V23.out.kept hd)
      try replace SM := Lib.hid (SM.out.kept hd)
      try replace SX := Lib.hid (SX.out.kept hd)
      try replace SX2 := Lib.hid (SX2.out.kept hd)
      try replace SD := Lib.hid (SD.out.kept hd)
      try replace SY := Lib.hid (SY.out.kept hd)
      try replace SY2 := Lib.hid (SY2.out.kept hd)
      try replace c3 := cell_kept c3 hd
      try replace q0 := cell_kept q0 hd
      try replace q1 := cell_kept q1 hd
      try replace q2 := cell_kept q2 hd
      try replace q3 := cell_kept q3 hd
      try replace c5 := cell_kept c5 hd
      try replace c8 := cell_kept c8 hd
      try replace c19 := cell_kept c19 hd
      try replace m0 := cell_kept m0 hd
      try replace m1 := cell_kept m1 hd
      try replace c21 := cell_kept c21 hd
      try replace c23 := cell_kept c23 hd
      clear hd HZ1 b10 b11 b20 b21 HS4 SX2 SY2 V8 V23 c8 c23
      by_cases hc4 : c4 = 0
      · subst hc4
        obtain ⟨hA1, hA2, hA3⟩ := add_found (ms := dm) (m := m) (by rw [HY.out])
        have hYe : Y = addMem dm m := by simpa using congrArg Prod.fst (HY.out.symm.trans hA1)
        rw [← hYe] at hA2 hA3
        have HFY : Hid (MemsFit Y) := Lib.hid (by
          rw [hYe]
          intro x hx
          rcases mem_addMem _ _ x hx with rfl | h
          · exact HMF.out
          · exact HDF.out x h)
        have hR := RatingOf_any Y m.name a8 cap8 wF SY.out HYL.out HFY.out
        rw [hA3] at hR
        have HR := Lib.hid hR
        have HVY : Hid (∀ wx, SliceAt wx 2 Mem.enc a8 Y → Calls Try.prog 40 #[.agg #[.slice a8 Y.length cap8]] wx fun e w' => e = .returned (.bool true) ∧ Below wx.heap.size wx w') := Lib.hid (fun wx h => by have := ValidClub_any Y a8 cap8 wx h (by have := HYL.out; omega) HFY.out; rwa [hA2] at this)
        clear hA1 hA2 hA3 hYe hR
        go_wp2_with fail
        refine HR.out.mono ?_
        rintro e wG ⟨rfl, hd⟩
        replace hb := hb.trans ((hd).mono hb.size)
        try replace V3 := Lib.hid (V3.out.kept hd)
        try replace V4 := Lib.hid (V4.out.kept hd)
        try replace V5 := Lib.hid (V5.out.kept hd)
        try replace V8 := Lib.hid (V8.out.kept hd)
        try replace V19 := Lib.hid (V19.out.kept hd)
        try replace V20 := Lib.hid (V20.out.kept hd)
        try replace V21 := Lib.hid (V21.out.kept hd)
        try replace V23 := Lib.hid (V23.out.kept hd)
        try replace SM := Lib.hid (SM.out.kept hd)
        try replace SX := Lib.hid (SX.out.kept hd)
        try replace SX2 := Lib.hid (SX2.out.kept hd)
        try replace SD := Lib.hid (SD.out.kept hd)
        try replace SY := Lib.hid (SY.out.kept hd)
        try replace SY2 := Lib.hid (SY2.out.kept hd)
        try replace c3 := cell_kept c3 hd
        try replace q0 := cell_kept q0 hd
        try replace q1 := cell_kept q1 hd
        try replace q2 := cell_kept q2 hd
        try replace q3 := cell_kept q3 hd
        try replace c5 := cell_kept c5 hd
        try replace c8 := cell_kept c8 hd
        try replace c19 := cell_kept c19 hd
        try replace m0 := cell_kept m0 hd
        try replace m1 := cell_kept m1 hd
        try replace c21 := cell_kept c21 hd
        try replace c23 := cell_kept c23 hd
        clear hd HR
        go_wp2_with fail
        refine (HVY.out _ SY.out).mono ?_
        rintro e wH ⟨rfl, hd⟩
        replace hb := hb.trans ((hd).mono hb.size)
        try replace V3 := Lib.hid (V3.out.kept hd)
        try replace V4 := Lib.hid (V4.out.kept hd)
        try replace V5 := Lib.hid (V5.out.kept hd)
        try replace V8 := Lib.hid (V8.out.kept hd)
        try replace V19 := Lib.hid (V19.out.kept hd)
        try replace V20 := Lib.hid (V20.out.kept hd)
        try replace V21 := Lib.hid (V21.out.kept hd)
        try replace V23 := Lib.hid (V23.out.kept hd)
        try replace SM := Lib.hid (SM.out.kept hd)
        try replace SX := Lib.hid (SX.out.kept hd)
        try replace SX2 := Lib.hid (SX2.out.kept hd)
        try replace SD := Lib.hid (SD.out.kept hd)
        try replace SY := Lib.hid (SY.out.kept hd)
        try replace SY2 := Lib.hid (SY2.out.kept hd)
        try replace c3 := cell_kept c3 hd
        try replace q0 := cell_kept q0 hd
        try replace q1 := cell_kept q1 hd
        try replace q2 := cell_kept q2 hd
        try replace q3 := cell_kept q3 hd
        try replace c5 := cell_kept c5 hd
        try replace c8 := cell_kept c8 hd
        try replace c19 := cell_kept c19 hd
        try replace m0 := cell_kept m0 hd
        try replace m1 := cell_kept m1 hd
        try replace c21 := cell_kept c21 hd
        try replace c23 := cell_kept c23 hd
        clear hd HVY V21 c21 SY m0 m1 c19 V19 V20 SD
        generalize wH = wT at *
        by_cases hcode : codeOf ms [r] = 0
        · have hpe := HP.out.symm.trans (rateResult_ok hcode)
          simp only [Prod.mk.injEq] at hpe
          obtain ⟨hX, hG, rfl⟩ := hpe
          have HXC : Hid (clubOk X = true) := by rw [hX]; exact Lib.hid (rate_club hcode)
          have HXF : Hid (MemsFit X) := by rw [hX]; exact Lib.hid (fit_names HF.out (rateOf_names ms r))
          have HXN : Hid (X.length = ms.length) := by rw [hX]; exact Lib.hid (rateOf_len ms r)
          cases hbe : r.b.toList.isEmpty with
          | true =>
            rw [rateOf_bye hbe] at hX hG
            simp only at hX hG
            subst hX hG
            have hbn : r.b.toList = [] := List.isEmpty_iff.1 hbe
            clear hcode
            go_wp2_with (go_at_call 39; refine (sameClub_any X a4 a cap4 cap _ SX.out SM.out HXL.out).mono ?_; rintro e wU ⟨rfl, hd⟩)
            go_ret
            exact ⟨rfl, hb.trans (hd.mono hb.size)⟩
          | false =>
            obtain ⟨f1, f2, f3, f4⟩ := rate_swap hcode hbe
            rw [← hX] at f2 f4
            rw [← hG] at f3
            have HFL := Lib.hid (rateResult_ok f1)
            rw [f2, f3] at HFL
            obtain ⟨k1, k2, k3⟩ := ok_one hcode
            have hgb : -4000 ≤ gn ∧ gn ≤ 4000 := by
              obtain ⟨i, j, hi1, hi2, hj1, hj2⟩ := known_game k3 hbe
              have hne := ne_of_names hi2 hj2 hi1 hj1 (scores_game k2 hbe).2.2.2.2
              have hr := ratings_of k1
              have a1 := hr.at hi2
              have a2 := hr.at hj2
              rw [hG, rateOf_game hbe hi2 hj2 hi1 hj1 hne]
              have := gain_bd ms[i].rating ms[j].rating r.sa r.sb a1.1 a1.2 a2.1 a2.2
              simp only
              omega
            obtain ⟨hg0, hg1⟩ := hgb
            have HSM := Lib.hid f4
            have HRT := Lib.hid (ratings_of k1)
            have HRX := Lib.hid (ratings_of HXC.out)
            have hbn : ¬ r.b.toList = [] := fun e => by rw [e] at hbe; cases hbe
            clear f1 f2 f3 f4 k1 k2 k3 hX hG
            have hR := RateResult_any ms r.flip a cap wT SM.out HN1.out (by omega) HF.out ⟨HRF.out.2, HRF.out.1⟩
            rw [HFL.out] at hR
            have HR := Lib.hid hR
            clear hR hcode
            go_wp2_with fail
            refine HR.out.mono ?_
            rintro e wU ⟨a7, cap7, rfl, ho7, hd⟩
            simp only at ho7 ⊢
            have SZ := Lib.hid (own_slice Mem.enc_len ho7 rfl)
            replace hb := hb.trans ((hd).mono hb.size)
            try replace V3 := Lib.hid (V3.out.kept hd)
            try replace V4 := Lib.hid (V4.out.kept hd)
            try replace V5 := Lib.hid (V5.out.kept hd)
            try replace V8 := Lib.hid (V8.out.kept hd)
            try replace V19 := Lib.hid (V19.out.kept hd)
            try replace V20 := Lib.hid (V20.out.kept hd)
            try replace V21 := Lib.hid (V21.out.kept hd)
            try replace V23 := Lib.hid (V23.out.kept hd)
            try replace SM := Lib.hid (SM.out.kept hd)
            try replace SX := Lib.hid (SX.out.kept hd)
            try replace SX2 := Lib.hid (SX2.out.kept hd)
            try replace SD := Lib.hid (SD.out.kept hd)
            try replace SY := Lib.hid (SY.out.kept hd)
            try replace SY2 := Lib.hid (SY2.out.kept hd)
            try replace c3 := cell_kept c3 hd
            try replace q0 := cell_kept q0 hd
            try replace q1 := cell_kept q1 hd
            try replace q2 := cell_kept q2 hd
            try replace q3 := cell_kept q3 hd
            try replace c5 := cell_kept c5 hd
            try replace c8 := cell_kept c8 hd
            try replace c19 := cell_kept c19 hd
            try replace m0 := cell_kept m0 hd
            try replace m1 := cell_kept m1 hd
            try replace c21 := cell_kept c21 hd
            try replace c23 := cell_kept c23 hd
            clear hd ho7 HR
            have hd : Below wU.heap.size wU (wU.alloc (.cells #[.slice a7 X.length cap7] 30)) := (Below.refl _ _).alloc (Nat.le_refl _) _
            have V27 := Lib.hid (VarAt.new wU 30 [.slice a7 X.length cap7])
            replace SZ := Lib.hid (SZ.out.kept hd)
            replace hb := hb.trans ((hd).mono hb.size)
            try replace V3 := Lib.hid (V3.out.kept hd)
            try replace V4 := Lib.hid (V4.out.kept hd)
            try replace V5 := Lib.hid (V5.out.kept hd)
            try replace V8 := Lib.hid (V8.out.kept hd)
            try replace V19 := Lib.hid (V19.out.kept hd)
            try replace V20 := Lib.hid (V20.out.kept hd)
            try replace V21 := Lib.hid (V21.out.kept hd)
            try replace V23 := Lib.hid (V23.out.kept hd)
            try replace SM := Lib.hid (SM.out.kept hd)
            try replace SX := Lib.hid (SX.out.kept hd)
            try replace SX2 := Lib.hid (SX2.out.kept hd)
            try replace SD := Lib.hid (SD.out.kept hd)
            try replace SY := Lib.hid (SY.out.kept hd)
            try replace SY2 := Lib.hid (SY2.out.kept hd)
            try replace c3 := cell_kept c3 hd
            try replace q0 := cell_kept q0 hd
            try replace q1 := cell_kept q1 hd
            try replace q2 := cell_kept q2 hd
            try replace q3 := cell_kept q3 hd
            try replace c5 := cell_kept c5 hd
            try replace c8 := cell_kept c8 hd
            try replace c19 := cell_kept c19 hd
            try replace m0 := cell_kept m0 hd
            try replace m1 := cell_kept m1 hd
            try replace c21 := cell_kept c21 hd
            try replace c23 := cell_kept c23 hd
            clear hd
            generalize hB : wU.heap.size = B27 at *
            obtain ⟨wV, hw⟩ : ∃ wx, wU.alloc (.cells #[.slice a7 X.length cap7] 30) = wx := ⟨_, rfl⟩
            rw [hw] at V27 V3 V4 V5 SM SX SZ c3 q0 q1 q2 q3 c5 hb
            go_wp2_with fail
            clear hw hB q0 q1 q2 q3 c3 c5 V4
            go_loopw [30, 31] (fun sv iv wr => ∃ (j : Nat) (S : Int), j ≤ ms.length ∧ iv = .int .i64 j ∧ sv = .int .i64 S ∧ Hid (S = ratSum (ms.take j) - ratSum (X.take j)) ∧ Below wV.heap.size wV wr) (fun _ iv _ => ms.length - (intOf iv).toNat)
            case atStart => exact ⟨0, 0, Nat.zero_le _, rfl, rfl, Lib.hid (by simp [ratSum]), Below.refl _ _⟩
            case round =>
              obtain ⟨j, S, hj, rfl, rfl, HSS, hbr⟩ := hrel
              have bS : -52000 ≤ S ∧ S ≤ 52000 := by
                have t1 := ratSum_bd (l := ms.take j) (fun x hx => HRT.out x (List.mem_of_mem_take hx))
                have t2 := ratSum_bd (l := X.take j) (fun x hx => HRX.out x (List.mem_of_mem_take hx))
                have := HXN.out
                rw [List.length_take] at t1 t2
                rw [HSS.out]
                omega
              obtain ⟨bS0, bS1⟩ := bS
              have c3 := (V3.out.kept hbr).cell (i := 0) rfl
              have c5 := (V5.out.kept hbr).cell (i := 0) rfl
              by_cases hlt : j < ms.length
              · have hltX : j < X.length := by rw [HXN.out]; exact hlt
                obtain ⟨xb, xo, rfl, hcx⟩ := (SM.out.kept hbr).open hlt
                obtain ⟨yb, yo, rfl, hcy⟩ := (SX.out.kept hbr).open hltX
                have p1 := hcx j hlt 1 (.int .i64 ms[j].rating) rfl
                have p2 := hcy j hltX 1 (.int .i64 X[j].rating) rfl
                have t1 := HRT.out.at hlt
                have t2 := HRX.out.at hltX
                obtain ⟨t10, t11⟩ := t1
                obtain ⟨t20, t21⟩ := t2
                have HM2 := Lib.hid (ratSum_take hlt)
                have HX2 := Lib.hid (ratSum_take hltX)
                have v1 : IntKind.i64.wrap (S + ms[j].rating) = S + ms[j].rating := IntWalk.i64_in _ (by omega)
                have v2 : IntKind.i64.wrap (S + ms[j].rating - X[j].rating) = S + ms[j].rating - X[j].rating := IntWalk.i64_in _ (by omega)
                clear hcx hcy
                go_wp2
                go_quiet (fail)
                clear v1 v2
                have hd : Below wr.heap.size wr (wr.drewN nq) := (Drew.drewN (Drew.refl _) nq).below _
                go_wp2
                go_roundw
                case rel => exact ⟨j + 1, _, by omega, by go_num, rfl, Lib.hid (by rw [HM2.out, HX2.out, HSS.out]; omega), hbr.trans (hd.mono hbr.size)⟩
                case measure => simp [intOf]; omega
              · obtain rfl : j = ms.length := by omega
                have hS0 : S = 0 := by
                  rw [HSS.out, List.take_length, ← HXN.out, List.take_length, HSM.out]
                  omega
                subst hS0
                have c27 := (V27.out.kept hbr).cell (i := 0) rfl
                have SX9 := Lib.hid (SX.out.kept hbr)
                have SZ9 := Lib.hid (SZ.out.kept hbr)
                have HVX : Hid (∀ wx, SliceAt wx 2 Mem.enc a4 X → Calls Try.prog 40 #[.agg #[.slice a4 X.length cap4]] wx fun e w' => e = .returned (.bool true) ∧ Below wx.heap.size wx w') := Lib.hid (fun wx h => by have := ValidClub_any X a4 cap4 wx h (by have := HXL.out; omega) HXF.out; rwa [HXC.out] at this)
                have v3 : IntKind.i64.wrap (-gn) = -gn := IntWalk.i64_in _ (by omega)
                clear HSS bS0 bS1
                go_wp2_with fail
                refine (sameClub_any X a7 a4 cap7 cap4 _ SZ9.out SX9.out HXL.out).mono ?_
                rintro e wW ⟨rfl, hd⟩
                replace c5 := cell_kept c5 hd
                replace SX9 := Lib.hid (SX9.out.kept hd)
                replace hbr := hbr.trans (hd.mono hbr.size)
                clear hd
                go_wp2_with fail
                refine (HVX.out _ SX9.out).mono ?_
                rintro e wY ⟨rfl, hd⟩
                go_wp2
                go_ret
                exact ⟨rfl, hb.trans ((hbr.trans (hd.mono hbr.size)).mono hb.size)⟩
        · have hcd : cd ≠ 0 := by
            have := HP.out.symm.trans (rateResult_bad hcode)
            simp only [Prod.mk.injEq] at this
            rw [this.2.2]
            exact hcode
          have e7 : (cd == 0) = false := by simpa using hcd
          have e8' : (cd != 0) = true := by simpa using hcd
          clear hcode hcd
          go_wp2
          go_ret
          exact ⟨rfl, hb⟩
      · have e4 : (c4 == 0) = false := by simpa using hc4
        clear hc4 V21 c21 SY m0 m1 c19 V19 V20 SD
        generalize wF = wT at *
        by_cases hcode : codeOf ms [r] = 0
        · have hpe := HP.out.symm.trans (rateResult_ok hcode)
          simp only [Prod.mk.injEq] at hpe
          obtain ⟨hX, hG, rfl⟩ := hpe
          have HXC : Hid (clubOk X = true) := by rw [hX]; exact Lib.hid (rate_club hcode)
          have HXF : Hid (MemsFit X) := by rw [hX]; exact Lib.hid (fit_names HF.out (rateOf_names ms r))
          have HXN : Hid (X.length = ms.length) := by rw [hX]; exact Lib.hid (rateOf_len ms r)
          cases hbe : r.b.toList.isEmpty with
          | true =>
            rw [rateOf_bye hbe] at hX hG
            simp only at hX hG
            subst hX hG
            have hbn : r.b.toList = [] := List.isEmpty_iff.1 hbe
            clear hcode
            go_wp2_with (go_at_call 39; refine (sameClub_any X a4 a cap4 cap _ SX.out SM.out HXL.out).mono ?_; rintro e wU ⟨rfl, hd⟩)
            go_ret
            exact ⟨rfl, hb.trans (hd.mono hb.size)⟩
          | false =>
            obtain ⟨f1, f2, f3, f4⟩ := rate_swap hcode hbe
            rw [← hX] at f2 f4
            rw [← hG] at f3
            have HFL := Lib.hid (rateResult_ok f1)
            rw [f2, f3] at HFL
            obtain ⟨k1, k2, k3⟩ := ok_one hcode
            have hgb : -4000 ≤ gn ∧ gn ≤ 4000 := by
              obtain ⟨i, j, hi1, hi2, hj1, hj2⟩ := known_game k3 hbe
              have hne := ne_of_names hi2 hj2 hi1 hj1 (scores_game k2 hbe).2.2.2.2
              have hr := ratings_of k1
              have a1 := hr.at hi2
              have a2 := hr.at hj2
              rw [hG, rateOf_game hbe hi2 hj2 hi1 hj1 hne]
              have := gain_bd ms[i].rating ms[j].rating r.sa r.sb a1.1 a1.2 a2.1 a2.2
              simp only
              omega
            obtain ⟨hg0, hg1⟩ := hgb
            have HSM := Lib.hid f4
            have HRT := Lib.hid (ratings_of k1)
            have HRX := Lib.hid (ratings_of HXC.out)
            have hbn : ¬ r.b.toList = [] := fun e => by rw [e] at hbe; cases hbe
            clear f1 f2 f3 f4 k1 k2 k3 hX hG
            have hR := RateResult_any ms r.flip a cap wT SM.out HN1.out (by omega) HF.out ⟨HRF.out.2, HRF.out.1⟩
            rw [HFL.out] at hR
            have HR := Lib.hid hR
            clear hR hcode
            go_wp2_with fail
            refine HR.out.mono ?_
            rintro e wU ⟨a7, cap7, rfl, ho7, hd⟩
            simp only at ho7 ⊢
            have SZ := Lib.hid (own_slice Mem.enc_len ho7 rfl)
            replace hb := hb.trans ((hd).mono hb.size)
            try replace V3 := Lib.hid (V3.out.kept hd)
            try replace V4 := Lib.hid (V4.out.kept hd)
            try replace V5 := Lib.hid (V5.out.kept hd)
            try replace V8 := Lib.hid (V8.out.kept hd)
            try replace V19 := Lib.hid (V19.out.kept hd)
            try replace V20 := Lib.hid (V20.out.kept hd)
            try replace V21 := Lib.hid (V21.out.kept hd)
            try replace V23 := Lib.hid (V23.out.kept hd)
            try replace SM := Lib.hid (SM.out.kept hd)
            try replace SX := Lib.hid (SX.out.kept hd)
            try replace SX2 := Lib.hid (SX2.out.kept hd)
            try replace SD := Lib.hid (SD.out.kept hd)
            try replace SY := Lib.hid (SY.out.kept hd)
            try replace SY2 := Lib.hid (SY2.out.kept hd)
            try replace c3 := cell_kept c3 hd
            try replace q0 := cell_kept q0 hd
            try replace q1 := cell_kept q1 hd
            try replace q2 := cell_kept q2 hd
            try replace q3 := cell_kept q3 hd
            try replace c5 := cell_kept c5 hd
            try replace c8 := cell_kept c8 hd
            try replace c19 := cell_kept c19 hd
            try replace m0 := cell_kept m0 hd
            try replace m1 := cell_kept m1 hd
            try replace c21 := cell_kept c21 hd
            try replace c23 := cell_kept c23 hd
            clear hd ho7 HR
            have hd : Below wU.heap.size wU (wU.alloc (.cells #[.slice a7 X.length cap7] 30)) := (Below.refl _ _).alloc (Nat.le_refl _) _
            have V27 := Lib.hid (VarAt.new wU 30 [.slice a7 X.length cap7])
            replace SZ := Lib.hid (SZ.out.kept hd)
            replace hb := hb.trans ((hd).mono hb.size)
            try replace V3 := Lib.hid (V3.out.kept hd)
            try replace V4 := Lib.hid (V4.out.kept hd)
            try replace V5 := Lib.hid (V5.out.kept hd)
            try replace V8 := Lib.hid (V8.out.kept hd)
            try replace V19 := Lib.hid (V19.out.kept hd)
            try replace V20 := Lib.hid (V20.out.kept hd)
            try replace V21 := Lib.hid (V21.out.kept hd)
            try replace V23 := Lib.hid (V23.out.kept hd)
            try replace SM := Lib.hid (SM.out.kept hd)
            try replace SX := Lib.hid (SX.out.kept hd)
            try replace SX2 := Lib.hid (SX2.out.kept hd)
            try replace SD := Lib.hid (SD.out.kept hd)
            try replace SY := Lib.hid (SY.out.kept hd)
            try replace SY2 := Lib.hid (SY2.out.kept hd)
            try replace c3 := cell_kept c3 hd
            try replace q0 := cell_kept q0 hd
            try replace q1 := cell_kept q1 hd
            try replace q2 := cell_kept q2 hd
            try replace q3 := cell_kept q3 hd
            try replace c5 := cell_kept c5 hd
            try replace c8 := cell_kept c8 hd
            try replace c19 := cell_kept c19 hd
            try replace m0 := cell_kept m0 hd
            try replace m1 := cell_kept m1 hd
            try replace c21 := cell_kept c21 hd
            try replace c23 := cell_kept c23 hd
            clear hd
            generalize hB : wU.heap.size = B27 at *
            obtain ⟨wV, hw⟩ : ∃ wx, wU.alloc (.cells #[.slice a7 X.length cap7] 30) = wx := ⟨_, rfl⟩
            rw [hw] at V27 V3 V4 V5 SM SX SZ c3 q0 q1 q2 q3 c5 hb
            go_wp2_with fail
            clear hw hB q0 q1 q2 q3 c3 c5 V4
            go_loopw [30, 31] (fun sv iv wr => ∃ (j : Nat) (S : Int), j ≤ ms.length ∧ iv = .int .i64 j ∧ sv = .int .i64 S ∧ Hid (S = ratSum (ms.take j) - ratSum (X.take j)) ∧ Below wV.heap.size wV wr) (fun _ iv _ => ms.length - (intOf iv).toNat)
            case atStart => exact ⟨0, 0, Nat.zero_le _, rfl, rfl, Lib.hid (by simp [ratSum]), Below.refl _ _⟩
            case round =>
              obtain ⟨j, S, hj, rfl, rfl, HSS, hbr⟩ := hrel
              have bS : -52000 ≤ S ∧ S ≤ 52000 := by
                have t1 := ratSum_bd (l := ms.take j) (fun x hx => HRT.out x (List.mem_of_mem_take hx))
                have t2 := ratSum_bd (l := X.take j) (fun x hx => HRX.out x (List.mem_of_mem_take hx))
                have := HXN.out
                rw [List.length_take] at t1 t2
                rw [HSS.out]
                omega
              obtain ⟨bS0, bS1⟩ := bS
              have c3 := (V3.out.kept hbr).cell (i := 0) rfl
              have c5 := (V5.out.kept hbr).cell (i := 0) rfl
              by_cases hlt : j < ms.length
              · have hltX : j < X.length := by rw [HXN.out]; exact hlt
                obtain ⟨xb, xo, rfl, hcx⟩ := (SM.out.kept hbr).open hlt
                obtain ⟨yb, yo, rfl, hcy⟩ := (SX.out.kept hbr).open hltX
                have p1 := hcx j hlt 1 (.int .i64 ms[j].rating) rfl
                have p2 := hcy j hltX 1 (.int .i64 X[j].rating) rfl
                have t1 := HRT.out.at hlt
                have t2 := HRX.out.at hltX
                obtain ⟨t10, t11⟩ := t1
                obtain ⟨t20, t21⟩ := t2
                have HM2 := Lib.hid (ratSum_take hlt)
                have HX2 := Lib.hid (ratSum_take hltX)
                have v1 : IntKind.i64.wrap (S + ms[j].rating) = S + ms[j].rating := IntWalk.i64_in _ (by omega)
                have v2 : IntKind.i64.wrap (S + ms[j].rating - X[j].rating) = S + ms[j].rating - X[j].rating := IntWalk.i64_in _ (by omega)
                clear hcx hcy
                go_wp2
                go_quiet (fail)
                clear v1 v2
                have hd : Below wr.heap.size wr (wr.drewN nq) := (Drew.drewN (Drew.refl _) nq).below _
                go_wp2
                go_roundw
                case rel => exact ⟨j + 1, _, by omega, by go_num, rfl, Lib.hid (by rw [HM2.out, HX2.out, HSS.out]; omega), hbr.trans (hd.mono hbr.size)⟩
                case measure => simp [intOf]; omega
              · obtain rfl : j = ms.length := by omega
                have hS0 : S = 0 := by
                  rw [HSS.out, List.take_length, ← HXN.out, List.take_length, HSM.out]
                  omega
                subst hS0
                have c27 := (V27.out.kept hbr).cell (i := 0) rfl
                have SX9 := Lib.hid (SX.out.kept hbr)
                have SZ9 := Lib.hid (SZ.out.kept hbr)
                have HVX : Hid (∀ wx, SliceAt wx 2 Mem.enc a4 X → Calls Try.prog 40 #[.agg #[.slice a4 X.length cap4]] wx fun e w' => e = .returned (.bool true) ∧ Below wx.heap.size wx w') := Lib.hid (fun wx h => by have := ValidClub_any X a4 cap4 wx h (by have := HXL.out; omega) HXF.out; rwa [HXC.out] at this)
                have v3 : IntKind.i64.wrap (-gn) = -gn := IntWalk.i64_in _ (by omega)
                clear HSS bS0 bS1
                go_wp2_with fail
                refine (sameClub_any X a7 a4 cap7 cap4 _ SZ9.out SX9.out HXL.out).mono ?_
                rintro e wW ⟨rfl, hd⟩
                replace c5 := cell_kept c5 hd
                replace SX9 := Lib.hid (SX9.out.kept hd)
                replace hbr := hbr.trans (hd.mono hbr.size)
                clear hd
                go_wp2_with fail
                refine (HVX.out _ SX9.out).mono ?_
                rintro e wY ⟨rfl, hd⟩
                go_wp2
                go_ret
                exact ⟨rfl, hb.trans ((hbr.trans (hd.mono hbr.size)).mono hb.size)⟩
        · have hcd : cd ≠ 0 := by
            have := HP.out.symm.trans (rateResult_bad hcode)
            simp only [Prod.mk.injEq] at this
            rw [this.2.2]
            exact hcode
          have e7 : (cd == 0) = false := by simpa using hcd
          have e8' : (cd != 0) = true := by simpa using hcd
          clear hcode hcd
          go_wp2
          go_ret
          exact ⟨rfl, hb⟩
end Go.Proofs.Ytpodkgfapbcmlaa
