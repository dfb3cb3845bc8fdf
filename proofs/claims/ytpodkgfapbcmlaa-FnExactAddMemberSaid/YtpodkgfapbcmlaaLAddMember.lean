/- The statement FnExactAddMember: the program's AddMember gives what the reference's gives. For every club and member. -/
import Derived.Test.YtpodkgfapbcmlaaAddI
import Derived.Test.YtpodkgfapbcmlaaAddS
import Derived.Test.YtpodkgfapbcmlaaClubT
import Derived.Test.YtpodkgfapbcmlaaBox
namespace Go.Proofs.Ytpodkgfapbcmlaa
open Go.ChangeShapes Go.WideShapes Go.ChangeAt Go.RowKit Go.Sort

theorem addMember_len (ms : List Mem) (m : Mem) : (addMember ms m).1.length ≤ ms.length + 1 := by
  unfold addMember
  split
  · simp
  · split
    · simp
    · split
      · simp
      · simp only [addMem_len]; omega

set_option maxRecDepth 100000 in
set_option maxHeartbeats 8000000 in
theorem lawAddMember_any (ms : List Mem) (m : Mem) (a : Option Addr) (cap : Nat) (w : World) (hm : SliceAt w 2 Mem.enc a ms) (hl : ms.length ≤ 9223372036854775807) (hf : MemsFit ms) (hfm : m.fit) :
    Calls Try.prog 6 #[.agg #[.slice a ms.length cap], .agg #[.string m.name, .int .i64 m.rating]] w fun e w' => e = .returned (.bool true) ∧ Below w.heap.size w w' := by
  have HM := Lib.hid hm; clear hm
  obtain ⟨w1, hw1⟩ : ∃ w1, w1 = (w.alloc (.cells #[.slice a ms.length cap] 24)).alloc (.cells #[.string m.name, .int .i64 m.rating] 53) := ⟨_, rfl⟩
  have hb : Below w.heap.size w w1 := by rw [hw1]; exact ((Below.refl _ _).alloc (Nat.le_refl _) _).alloc (by simp) _
  have c1 : w1.cell? ⟨w.heap.size, 0, none⟩ = some (.slice a ms.length cap) := by rw [hw1]; exact cell_alloc (cell_new0 w _ _ rfl) _
  have q0 : w1.cell? ⟨w.heap.size + 1, 0, none⟩ = some (.string m.name) := by rw [hw1]; simp
  have q1 : w1.cell? ⟨w.heap.size + 1, 1, none⟩ = some (.int .i64 m.rating) := by rw [hw1]; simp
  have HW1 := Lib.hid hw1; clear hw1
  go_enter Try.func6, Try.ntmps6
  go_wp2_with fail
  rw [← HW1.out]
  refine (szClub_any ms a cap 1048576 _ (HM.out.kept hb) hl hf (by omega) (by omega)).mono ?_
  rintro e w2 ⟨l1, rfl, h2, hd⟩
  replace hb := hb.trans (hd.mono hb.size)
  replace c1 := cell_kept c1 hd
  replace q0 := cell_kept q0 hd
  replace q1 := cell_kept q1 hd
  clear hd
  rcases h2 with rfl | ⟨h20, h2⟩
  · go_wp2
    go_ret
    exact ⟨rfl, hb⟩
  have h3 : ¬ l1 < 0 := by omega
  have h4 : l1 ≤ 1048576 := by omega
  have hl2 : ms.length ≤ 1048576 := by omega
  clear h2 hl
  go_wp2_with fail
  refine (szMember_any m l1 _ h20 h4 hfm).mono ?_
  rintro e w3 ⟨l2, rfl, h2, hd⟩
  replace hb := hb.trans (hd.mono hb.size)
  replace c1 := cell_kept c1 hd
  replace q0 := cell_kept q0 hd
  replace q1 := cell_kept q1 hd
  clear hd
  rcases h2 with rfl | ⟨h30, h2⟩
  · go_wp2
    go_ret
    exact ⟨rfl, hb⟩
  have h5 : ¬ l2 < 0 := by omega
  clear h2 h4 h3 h20 h30
  have SA := Lib.hid (HM.out.kept hb)
  clear HM HW1
  go_upto_region 8 with fail
  go_cut [6, 7] (fun s6 s7 wx => Boxed w3 wx 56 2 s6 (addMember ms m).1.length ((addMember ms m).1.flatMap Mem.enc) ∧ s7 = .int .i64 (addMember ms m).2)
  case first =>
    have hk : Below w3.heap.size w3 w3.drew := (Below.refl _ _).drew
    have l_c1 := block_lt c1
    have l_q0 := block_lt q0
    have l_q1 := block_lt q1
    have k_c1 : w3.drew.cell? ⟨w.heap.size, 0, none⟩ = some (.slice a ms.length cap) := c1
    have k_q0 : w3.drew.cell? ⟨w.heap.size + 1, 0, none⟩ = some (.string m.name) := q0
    have k_q1 : w3.drew.cell? ⟨w.heap.size + 1, 1, none⟩ = some (.int .i64 m.rating) := q1
    go_region_held3 (fun w' => w'.cell? ⟨w.heap.size, 0, none⟩ = some (.slice a ms.length cap) ∧ w'.cell? ⟨w.heap.size + 1, 0, none⟩ = some (.string m.name) ∧ w'.cell? ⟨w.heap.size + 1, 1, none⟩ = some (.int .i64 m.rating))
      (first | exact ⟨k_c1, k_q0, k_q1⟩ | exact ⟨(cell_alloc k_c1 _), (cell_alloc k_q0 _), (cell_alloc k_q1 _)⟩ | exact ⟨(cell_far k_c1 (by omega) _), (cell_far k_q0 (by omega) _), (cell_far k_q1 (by omega) _)⟩ | exact ⟨(cell_newfar k_c1 _ _), (cell_newfar k_q0 _ _), (cell_newfar k_q1 _ _)⟩)
      (first
        | (go_at_call 14; (try ((first | refine calls_alloc ?_ | refine calls_alloc_drew ?_); intro wz hxz hcz hfz; have hgz := hk.size; (try replace S0 := Lib.hid (S0.out.kept hxz)); (try replace hk := hk.trans (hxz.mono hk.size)); replace k_c1 := cell_kept k_c1 hxz; replace k_q0 := cell_kept k_q0 hxz; replace k_q1 := cell_kept k_q1 hxz; clear hxz)); refine (toClub_any ms a cap _ (SA.out.kept hk) hl2).mono ?_; rintro e wq ⟨gq, rfl, hoq, hdq⟩; have S0 := Lib.hid (own_slice Mem.enc_len hoq rfl); clear hoq; (try replace hfz := frozen_kept hfz hcz hdq); (try replace hcz := cell_kept hcz hdq);  (try replace hk := hk.trans (hdq.mono hk.size)); replace k_c1 := cell_kept k_c1 hdq; replace k_q0 := cell_kept k_q0 hdq; replace k_q1 := cell_kept k_q1 hdq; clear hdq)
        | (go_at_call 31; (try ((first | refine calls_alloc ?_ | refine calls_alloc_drew ?_); intro wz hxz hcz hfz; have hgz := hk.size; (try replace S0 := Lib.hid (S0.out.kept hxz)); (try replace hk := hk.trans (hxz.mono hk.size)); replace k_c1 := cell_kept k_c1 hxz; replace k_q0 := cell_kept k_q0 hxz; replace k_q1 := cell_kept k_q1 hxz; clear hxz)); refine (toMember_any m _).mono ?_; rintro e wq ⟨rfl, hdq⟩;  (try replace hfz := frozen_kept hfz hcz hdq); (try replace hcz := cell_kept hcz hdq); (try replace S0 := Lib.hid (S0.out.kept hdq)); (try replace hk := hk.trans (hdq.mono hk.size)); replace k_c1 := cell_kept k_c1 hdq; replace k_q0 := cell_kept k_q0 hdq; replace k_q1 := cell_kept k_q1 hdq; clear hdq)
        | (go_at_call 30; (try ((first | refine calls_alloc ?_ | refine calls_alloc_drew ?_); intro wz hxz hcz hfz; have hgz := hk.size; (try replace S0 := Lib.hid (S0.out.kept hxz)); (try replace hk := hk.trans (hxz.mono hk.size)); replace k_c1 := cell_kept k_c1 hxz; replace k_q0 := cell_kept k_q0 hxz; replace k_q1 := cell_kept k_q1 hxz; clear hxz)); refine (specAddMember_any ms m _ _ _ S0.out hl2 hf hfm).mono ?_; rintro e wq ⟨a2, cap2, rfl, hoq, hdq⟩; have HO := Lib.hid hoq; have hBq := hk.size; (try have hgb := block_lt hcz); clear hoq; (try replace hfz := frozen_kept hfz hcz hdq); (try replace hcz := cell_kept hcz hdq);  (try replace hk := hk.trans (hdq.mono hk.size)); replace k_c1 := cell_kept k_c1 hdq; replace k_q0 := cell_kept k_q0 hdq; replace k_q1 := cell_kept k_q1 hdq; clear hdq))
    all_goals (go_wp2_with fail; go_meet; first | exact ⟨boxed_early hk hcz hgz HO.out hgb, rfl⟩ | exact ⟨boxed_late hk HO.out hBq, rfl⟩)
  case rest =>
    generalize wc = wA at *
    obtain ⟨hbox, rfl⟩ := hcut
    obtain ⟨g6, a6, cap6, rfl, hg6, c6, O6, n6, hd⟩ := hbox
    have S6A := Lib.hid (own_slice Mem.enc_len O6 rfl)
    clear O6 n6
    have hlen := addMember_len ms m
    replace hb := hb.trans (hd.mono hb.size)
    replace c1 := cell_kept c1 hd
    replace q0 := cell_kept q0 hd
    replace q1 := cell_kept q1 hd
    replace SA := Lib.hid (SA.out.kept hd)
    clear hd
    have hbA := hb
    replace hb : Below wA.heap.size wA wA := Below.refl _ _
    have b1 := block_lt c1
    have b2 := block_lt q0
    have b6 := block_lt c6
    have SAA := SA
    go_wp2_with fail
    refine (toClub_any ms a cap _ SA.out hl2).mono ?_
    rintro e w4 ⟨r9, rfl, O9, hd⟩
    have hr9 := O9.lt r9 rfl
    replace hb := hb.trans (hd.mono hb.size)
    replace c1 := cell_kept c1 hd
    replace q0 := cell_kept q0 hd
    replace q1 := cell_kept q1 hd
    replace c6 := cell_kept c6 hd
    replace SA := Lib.hid (SA.out.kept hd)
    clear hd
    go_upto_region 10 with fail
    have hd : Below w4.heap.size w4 (w4.alloc (.cells #[.slice (some ⟨r9, 0, none⟩) ms.length ms.length] 30)) := (Below.refl _ _).alloc (Nat.le_refl _) _
    have c9 := cell_new0 w4 #[.slice (some ⟨r9, 0, none⟩) ms.length ms.length] 30 (i := 0) (v := .slice (some ⟨r9, 0, none⟩) ms.length ms.length) rfl
    replace O9 := Lib.hid (own_below O9 hd)
    replace hb := hb.trans (hd.mono hb.size)
    replace c1 := cell_kept c1 hd
    replace q0 := cell_kept q0 hd
    replace q1 := cell_kept q1 hd
    replace c6 := cell_kept c6 hd
    replace SA := Lib.hid (SA.out.kept hd)
    clear hd
    generalize w4.alloc (.cells #[.slice (some ⟨r9, 0, none⟩) ms.length ms.length] 30) = w5 at *
    have S9 := Lib.hid (own_slice Mem.enc_len O9.out rfl)
    have h45 := block_lt c9
    go_cut [9, 10] (fun s9 s10 wx => Boxed w5 wx 56 2 s9 (addMember ms m).1.length ((addMember ms m).1.flatMap Mem.enc) ∧ s10 = .int .i64 (addMember ms m).2)
    case first =>
      have hk : Below w5.heap.size w5 w5.drew := (Below.refl _ _).drew
      have l_c9 := block_lt c9
      have l_q0 := block_lt q0
      have l_q1 := block_lt q1
      have k_c9 : w5.drew.cell? ⟨w4.heap.size, 0, none⟩ = some (.slice (some ⟨r9, 0, none⟩) ms.length ms.length) := c9
      have k_q0 : w5.drew.cell? ⟨w.heap.size + 1, 0, none⟩ = some (.string m.name) := q0
      have k_q1 : w5.drew.cell? ⟨w.heap.size + 1, 1, none⟩ = some (.int .i64 m.rating) := q1
      go_region_held3 (fun w' => w'.cell? ⟨w4.heap.size, 0, none⟩ = some (.slice (some ⟨r9, 0, none⟩) ms.length ms.length) ∧ w'.cell? ⟨w.heap.size + 1, 0, none⟩ = some (.string m.name) ∧ w'.cell? ⟨w.heap.size + 1, 1, none⟩ = some (.int .i64 m.rating))
        (first | exact ⟨k_c9, k_q0, k_q1⟩ | exact ⟨(cell_alloc k_c9 _), (cell_alloc k_q0 _), (cell_alloc k_q1 _)⟩ | exact ⟨(cell_far k_c9 (by omega) _), (cell_far k_q0 (by omega) _), (cell_far k_q1 (by omega) _)⟩ | exact ⟨(cell_newfar k_c9 _ _), (cell_newfar k_q0 _ _), (cell_newfar k_q1 _ _)⟩)
        (first
          | (go_at_call 31; (try ((first | refine calls_alloc ?_ | refine calls_alloc_drew ?_); intro wz hxz hcz hfz; have hgz := hk.size;  (try replace hk := hk.trans (hxz.mono hk.size)); replace k_c9 := cell_kept k_c9 hxz; replace k_q0 := cell_kept k_q0 hxz; replace k_q1 := cell_kept k_q1 hxz; clear hxz)); refine (toMember_any m _).mono ?_; rintro e wq ⟨rfl, hdq⟩;  (try replace hfz := frozen_kept hfz hcz hdq); (try replace hcz := cell_kept hcz hdq);  (try replace hk := hk.trans (hdq.mono hk.size)); replace k_c9 := cell_kept k_c9 hdq; replace k_q0 := cell_kept k_q0 hdq; replace k_q1 := cell_kept k_q1 hdq; clear hdq)
          | (go_at_call 32; (try ((first | refine calls_alloc ?_ | refine calls_alloc_drew ?_); intro wz hxz hcz hfz; have hgz := hk.size;  (try replace hk := hk.trans (hxz.mono hk.size)); replace k_c9 := cell_kept k_c9 hxz; replace k_q0 := cell_kept k_q0 hxz; replace k_q1 := cell_kept k_q1 hxz; clear hxz)); refine (AddMember_any ms m _ _ _ (S9.out.kept hk) hl2 hf hfm).mono ?_; rintro e wq ⟨a2, cap2, rfl, hoq, hdq⟩; have HO := Lib.hid hoq; have hBq := hk.size; (try have hgb := block_lt hcz); clear hoq; (try replace hfz := frozen_kept hfz hcz hdq); (try replace hcz := cell_kept hcz hdq);  (try replace hk := hk.trans (hdq.mono hk.size)); replace k_c9 := cell_kept k_c9 hdq; replace k_q0 := cell_kept k_q0 hdq; replace k_q1 := cell_kept k_q1 hdq; clear hdq))
      all_goals (go_wp2_with fail; go_meet; first | exact ⟨boxed_early hk hcz hgz HO.out hgb, rfl⟩ | exact ⟨boxed_late hk HO.out hBq, rfl⟩)
    case rest =>
      generalize wc = w6 at *
      obtain ⟨hbox, rfl⟩ := hcut
      obtain ⟨g10, a10, cap10, rfl, hg10, c10, O10, n10, hd⟩ := hbox
      replace O10 := Lib.hid O10
      replace hb := hb.trans (hd.mono hb.size)
      replace c1 := cell_kept c1 hd
      replace q0 := cell_kept q0 hd
      replace q1 := cell_kept q1 hd
      replace c6 := cell_kept c6 hd
      replace c9 := cell_kept c9 hd
      replace O9 := Lib.hid (own_below O9.out hd)
      replace SA := Lib.hid (SA.out.kept hd)
      replace S9 := Lib.hid (S9.out.kept hd)
      clear hd
      have S10 := Lib.hid (own_slice Mem.enc_len O10.out rfl)
      have S6 := Lib.hid (S6A.out.kept hb)
      go_wp2_with fail
      refine (eqClub_any (addMember ms m).1 a10 a6 cap10 cap6 _ S10.out S6.out (by omega)).mono ?_
      rintro e w7 ⟨rfl, hd⟩
      replace hb := hb.trans (hd.mono hb.size)
      replace c1 := cell_kept c1 hd
      replace q0 := cell_kept q0 hd
      replace q1 := cell_kept q1 hd
      replace c6 := cell_kept c6 hd
      replace c9 := cell_kept c9 hd
      replace c10 := cell_kept c10 hd
      replace O9 := Lib.hid (own_below O9.out hd)
      replace O10 := Lib.hid (own_below O10.out hd)
      replace SA := Lib.hid (SA.out.kept hd)
      replace S6 := Lib.hid (S6.out.kept hd)
      replace S9 := Lib.hid (S9.out.kept hd)
      replace S10 := Lib.hid (S10.out.kept hd)
      clear hd
      go_upto_region 13 with fail
      have hk : Below w7.heap.size w7 w7.drew := (Below.refl _ _).drew
      have l_c9 := block_lt c9
      have l_c1 := block_lt c1
      have k_c9 : w7.drew.cell? ⟨w4.heap.size, 0, none⟩ = some (.slice (some ⟨r9, 0, none⟩) ms.length ms.length) := c9
      have k_c1 : w7.drew.cell? ⟨w.heap.size, 0, none⟩ = some (.slice a ms.length cap) := c1
      go_region_held3 (fun w' => w'.cell? ⟨w4.heap.size, 0, none⟩ = some (.slice (some ⟨r9, 0, none⟩) ms.length ms.length) ∧ w'.cell? ⟨w.heap.size, 0, none⟩ = some (.slice a ms.length cap))
        (first | exact ⟨k_c9, k_c1⟩ | exact ⟨(cell_alloc k_c9 _), (cell_alloc k_c1 _)⟩ | exact ⟨(cell_far k_c9 (by omega) _), (cell_far k_c1 (by omega) _)⟩ | exact ⟨(cell_newfar k_c9 _ _), (cell_newfar k_c1 _ _)⟩)
        (first
          | (go_at_call 14; refine (toClub_any ms a cap _ (SA.out.kept hk) hl2).mono ?_; rintro e wq ⟨gq, rfl, hoq, hdq⟩; have S0 := Lib.hid (own_slice Mem.enc_len hoq rfl); clear hoq;  (try replace hk := hk.trans (hdq.mono hk.size)); replace k_c9 := cell_kept k_c9 hdq; replace k_c1 := cell_kept k_c1 hdq; clear hdq)
          | (go_at_call 16; refine (eqClub_any ms _ _ _ _ _ (S9.out.kept hk) S0.out (by omega)).mono ?_; rintro e wq ⟨rfl, hdq⟩;   (try replace hk := hk.trans (hdq.mono hk.size)); replace k_c9 := cell_kept k_c9 hdq; replace k_c1 := cell_kept k_c1 hdq; clear hdq))
      replace hb := hb.trans (hk.mono hb.size)
      replace c1 := cell_kept c1 hk
      replace q0 := cell_kept q0 hk
      replace q1 := cell_kept q1 hk
      replace c6 := cell_kept c6 hk
      replace c9 := cell_kept c9 hk
      replace c10 := cell_kept c10 hk
      replace O9 := Lib.hid (own_below O9.out hk)
      replace O10 := Lib.hid (own_below O10.out hk)
      replace SA := Lib.hid (SA.out.kept hk)
      replace S6 := Lib.hid (S6.out.kept hk)
      replace S9 := Lib.hid (S9.out.kept hk)
      replace S10 := Lib.hid (S10.out.kept hk)
      clear hk
      go_wp2_with fail
      refine (markClub_any ms (some ⟨r9, 0, none⟩) ms.length _ 1 _ O9.out (by omega) (by omega) (by omega)).mono ?_
      rintro e w8 ⟨wz, hd, rfl, ho, hg⟩
      replace hb := hb.trans (hd.mono hb.size)
      replace c1 := cell_kept c1 hd
      replace q0 := cell_kept q0 hd
      replace q1 := cell_kept q1 hd
      replace c6 := cell_kept c6 hd
      replace c9 := cell_kept c9 hd
      replace c10 := cell_kept c10 hd
      replace O10 := Lib.hid (own_below O10.out hd)
      replace SA := Lib.hid (SA.out.kept hd)
      replace S6 := Lib.hid (S6.out.kept hd)
      replace S10 := Lib.hid (S10.out.kept hd)
      clear hd
      have hne9 : ∀ b, b ≠ r9 → some b ≠ (Value.slice (some ⟨r9, 0, none⟩) ms.length ms.length).ownBlock := fun b h e => by simp [Value.ownBlock] at e; exact h e
      replace c1 := hg.cell c1 (hne9 _ (by first | omega | (simp only; omega)))
      replace q0 := hg.cell q0 (hne9 _ (by first | omega | (simp only; omega)))
      replace q1 := hg.cell q1 (hne9 _ (by first | omega | (simp only; omega)))
      replace c6 := hg.cell c6 (hne9 _ (by first | omega | (simp only; omega)))
      replace c10 := hg.cell c10 (hne9 _ (by first | omega | (simp only; omega)))
      replace O10 := Lib.hid (O10.out.kept hg (.inr fun h => by have := (O10.out.lt r9 h).1; omega))
      replace hb := hb.grown hg hb.size (fun k hk => by have e := Option.some.inj (show some r9 = some k from hk); omega)
      replace SA := Lib.hid (SAA.out.kept hb)
      replace S6 := Lib.hid (S6A.out.kept hb)
      replace S10 := Lib.hid (own_slice Mem.enc_len O10.out rfl)
      clear hg ho hne9 O9 S9 c9
      have hm1 : ¬ (1 : Int) + 2 * ms.length < 0 := by omega
      go_wp2_with fail
      refine (eqClub_any (addMember ms m).1 a10 a6 cap10 cap6 _ S10.out S6.out (by omega)).mono ?_
      rintro e w9 ⟨rfl, hd⟩
      replace hb := hb.trans (hd.mono hb.size)
      replace c1 := cell_kept c1 hd
      replace q0 := cell_kept q0 hd
      replace q1 := cell_kept q1 hd
      replace c6 := cell_kept c6 hd
      replace c10 := cell_kept c10 hd
      replace O10 := Lib.hid (own_below O10.out hd)
      replace SA := Lib.hid (SA.out.kept hd)
      replace S6 := Lib.hid (S6.out.kept hd)
      clear hd
      go_wp2_with fail
      refine (markClub_any (addMember ms m).1 a10 cap10 _ 1 _ O10.out (by omega) (by omega) (by omega)).mono ?_
      rintro e w10 ⟨wz, hd, rfl, ho, hg⟩
      replace hb := hb.trans (hd.mono hb.size)
      replace c1 := cell_kept c1 hd
      replace q0 := cell_kept q0 hd
      replace q1 := cell_kept q1 hd
      replace c6 := cell_kept c6 hd
      replace c10 := cell_kept c10 hd
      replace O10 := Lib.hid (own_below O10.out hd)
      replace SA := Lib.hid (SA.out.kept hd)
      replace S6 := Lib.hid (S6.out.kept hd)
      clear hd
      have hne10 : ∀ b, b < w5.heap.size → some b ≠ (Value.slice a10 (addMember ms m).1.length cap10).ownBlock := fun b h e => by have := (O10.out.lt _ e.symm).1; omega
      replace c1 := hg.cell c1 (hne10 _ (by first | omega | (simp only; omega)))
      replace q0 := hg.cell q0 (hne10 _ (by first | omega | (simp only; omega)))
      replace q1 := hg.cell q1 (hne10 _ (by first | omega | (simp only; omega)))
      replace c6 := hg.cell c6 (hne10 _ (by first | omega | (simp only; omega)))
      replace c10 := hg.cell c10 (fun e => n10 e.symm)
      replace hb := hb.grown hg hb.size (fun k hk => by have := (O10.out.lt _ hk).1; omega)
      replace SA := Lib.hid (SAA.out.kept hb)
      replace S6 := Lib.hid (S6A.out.kept hb)
      have SM := Lib.hid (own_slice Mem.enc_len ho (Mem.marks_len 1 (addMember ms m).1.length).symm)
      clear hg ho hne10 O10 S10
      have hm2 : ¬ (1 : Int) + 2 * (addMember ms m).1.length < 0 := by omega
      go_wp2_with fail
      refine (heldClub_any (addMember ms m).1.length a10 cap10 1 _ SM.out (by omega) (by omega) (by omega)).mono ?_
      rintro e w12 ⟨rfl, hd⟩
      replace hb := hb.trans (hd.mono hb.size)
      replace c1 := cell_kept c1 hd
      replace q0 := cell_kept q0 hd
      replace q1 := cell_kept q1 hd
      replace c6 := cell_kept c6 hd
      replace c10 := cell_kept c10 hd
      replace SA := Lib.hid (SA.out.kept hd)
      replace S6 := Lib.hid (S6.out.kept hd)
      replace SM := Lib.hid (SM.out.kept hd)
      clear hd
      go_upto_region 27 with fail
      go_cut [14, 15] (fun s14 s15 wx => Boxed w12 wx 56 2 s14 (addMember ms m).1.length ((addMember ms m).1.flatMap Mem.enc) ∧ s15 = .int .i64 (addMember ms m).2)
      case first =>
        have hk : Below w12.heap.size w12 w12.drew := (Below.refl _ _).drew
        have l_c1 := block_lt c1
        have l_q0 := block_lt q0
        have l_q1 := block_lt q1
        have k_c1 : w12.drew.cell? ⟨w.heap.size, 0, none⟩ = some (.slice a ms.length cap) := c1
        have k_q0 : w12.drew.cell? ⟨w.heap.size + 1, 0, none⟩ = some (.string m.name) := q0
        have k_q1 : w12.drew.cell? ⟨w.heap.size + 1, 1, none⟩ = some (.int .i64 m.rating) := q1
        go_region_held3 (fun w' => w'.cell? ⟨w.heap.size, 0, none⟩ = some (.slice a ms.length cap) ∧ w'.cell? ⟨w.heap.size + 1, 0, none⟩ = some (.string m.name) ∧ w'.cell? ⟨w.heap.size + 1, 1, none⟩ = some (.int .i64 m.rating))
          (first | exact ⟨k_c1, k_q0, k_q1⟩ | exact ⟨(cell_alloc k_c1 _), (cell_alloc k_q0 _), (cell_alloc k_q1 _)⟩ | exact ⟨(cell_far k_c1 (by omega) _), (cell_far k_q0 (by omega) _), (cell_far k_q1 (by omega) _)⟩ | exact ⟨(cell_newfar k_c1 _ _), (cell_newfar k_q0 _ _), (cell_newfar k_q1 _ _)⟩)
          (first
            | (go_at_call 14; (try ((first | refine calls_alloc ?_ | refine calls_alloc_drew ?_); intro wz hxz hcz hfz; have hgz := hk.size; (try replace S0 := Lib.hid (S0.out.kept hxz)); (try replace hk := hk.trans (hxz.mono hk.size)); replace k_c1 := cell_kept k_c1 hxz; replace k_q0 := cell_kept k_q0 hxz; replace k_q1 := cell_kept k_q1 hxz; clear hxz)); refine (toClub_any ms a cap _ (SA.out.kept hk) hl2).mono ?_; rintro e wq ⟨gq, rfl, hoq, hdq⟩; have S0 := Lib.hid (own_slice Mem.enc_len hoq rfl); clear hoq; (try replace hfz := frozen_kept hfz hcz hdq); (try replace hcz := cell_kept hcz hdq);  (try replace hk := hk.trans (hdq.mono hk.size)); replace k_c1 := cell_kept k_c1 hdq; replace k_q0 := cell_kept k_q0 hdq; replace k_q1 := cell_kept k_q1 hdq; clear hdq)
            | (go_at_call 31; (try ((first | refine calls_alloc ?_ | refine calls_alloc_drew ?_); intro wz hxz hcz hfz; have hgz := hk.size; (try replace S0 := Lib.hid (S0.out.kept hxz)); (try replace hk := hk.trans (hxz.mono hk.size)); replace k_c1 := cell_kept k_c1 hxz; replace k_q0 := cell_kept k_q0 hxz; replace k_q1 := cell_kept k_q1 hxz; clear hxz)); refine (toMember_any m _).mono ?_; rintro e wq ⟨rfl, hdq⟩;  (try replace hfz := frozen_kept hfz hcz hdq); (try replace hcz := cell_kept hcz hdq); (try replace S0 := Lib.hid (S0.out.kept hdq)); (try replace hk := hk.trans (hdq.mono hk.size)); replace k_c1 := cell_kept k_c1 hdq; replace k_q0 := cell_kept k_q0 hdq; replace k_q1 := cell_kept k_q1 hdq; clear hdq)
            | (go_at_call 32; (try ((first | refine calls_alloc ?_ | refine calls_alloc_drew ?_); intro wz hxz hcz hfz; have hgz := hk.size; (try replace S0 := Lib.hid (S0.out.kept hxz)); (try replace hk := hk.trans (hxz.mono hk.size)); replace k_c1 := cell_kept k_c1 hxz; replace k_q0 := cell_kept k_q0 hxz; replace k_q1 := cell_kept k_q1 hxz; clear hxz)); refine (AddMember_any ms m _ _ _ S0.out hl2 hf hfm).mono ?_; rintro e wq ⟨a2, cap2, rfl, hoq, hdq⟩; have HO := Lib.hid hoq; have hBq := hk.size; (try have hgb := block_lt hcz); clear hoq; (try replace hfz := frozen_kept hfz hcz hdq); (try replace hcz := cell_kept hcz hdq);  (try replace hk := hk.trans (hdq.mono hk.size)); replace k_c1 := cell_kept k_c1 hdq; replace k_q0 := cell_kept k_q0 hdq; replace k_q1 := cell_kept k_q1 hdq; clear hdq))
        all_goals (go_wp2_with fail; go_meet; first | exact ⟨boxed_early hk hcz hgz HO.out hgb, rfl⟩ | exact ⟨boxed_late hk HO.out hBq, rfl⟩)
      case rest =>
        generalize wc = w13 at *
        obtain ⟨hbox, rfl⟩ := hcut
        obtain ⟨g16, a16, cap16, rfl, hg16, c16, O16, n16, hd⟩ := hbox
        have S16 := Lib.hid (own_slice Mem.enc_len O16 rfl)
        replace hb := hb.trans (hd.mono hb.size)
        replace c6 := cell_kept c6 hd
        replace c10 := cell_kept c10 hd
        replace S6 := Lib.hid (S6.out.kept hd)
        replace SM := Lib.hid (SM.out.kept hd)
        clear hd
        go_wp2_with fail
        refine (eqClub_any (addMember ms m).1 a16 a6 cap16 cap6 _ S16.out S6.out (by omega)).mono ?_
        rintro e w14 ⟨rfl, hd⟩
        replace hb := hb.trans (hd.mono hb.size)
        replace c10 := cell_kept c10 hd
        replace SM := Lib.hid (SM.out.kept hd)
        clear hd
        go_wp2_with fail
        refine (heldClub_any (addMember ms m).1.length a10 cap10 1 _ SM.out (by omega) (by omega) (by omega)).mono ?_
        rintro e w15 ⟨rfl, hd⟩
        replace hb := hb.trans (hd.mono hb.size)
        go_wp2
        go_ret
        exact ⟨rfl, hbA.trans (hb.mono hbA.size)⟩
end Go.Proofs.Ytpodkgfapbcmlaa
