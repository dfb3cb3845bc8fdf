/- The statement FnExactPairRound: the program's PairRound gives what the reference's gives. For every club and every row of results. -/
import Derived.Test.YtpodkgfapbcmlaaPrG
import Derived.Test.YtpodkgfapbcmlaaTPairing
import Derived.Test.YtpodkgfapbcmlaaClubT
import Derived.Test.YtpodkgfapbcmlaaBox
namespace Go.Proofs.Ytpodkgfapbcmlaa
open Go.ChangeShapes Go.WideShapes Go.ChangeAt Go.RowKit Go.Sort

set_option maxRecDepth 100000 in
set_option maxHeartbeats 8000000 in
theorem lawPairRound_any (ms : List Mem) (rs : List Res) (a ra : Option Addr) (cap rcap : Nat) (w : World) (hm : SliceAt w 2 Mem.enc a ms) (hr : SliceAt w 4 Res.enc ra rs) (hl : ms.length ≤ 9223372036854775807) (hlr : rs.length ≤ 9223372036854775807) (hf : MemsFit ms) (hfr : ResFit rs) :
    Calls Try.prog 11 #[.agg #[.slice a ms.length cap], .slice ra rs.length rcap] w fun e w' => e = .returned (.bool true) ∧ Below w.heap.size w w' := by
  have HFR := Lib.hid hfr; clear hfr
  have hb : Below w.heap.size w (w.alloc (.cells #[.slice a ms.length cap] 24)) := (Below.refl _ _).alloc (Nat.le_refl _) _
  have c1 := cell_new0 w #[.slice a ms.length cap] 24 (i := 0) (v := .slice a ms.length cap) rfl
  have SA := Lib.hid (hm.kept hb)
  have SL := Lib.hid (hr.kept hb)
  clear hm hr
  go_enter Try.func11, Try.ntmps11
  go_wp2_with fail
  generalize w.alloc (.cells #[.slice a ms.length cap] 24) = w1 at *
  refine (szClub_any ms a cap 1048576 _ SA.out hl hf (by omega) (by omega)).mono ?_
  rintro e w2 ⟨l1, rfl, h2, hd⟩
  replace hb := hb.trans (hd.mono hb.size)
  replace c1 := cell_kept c1 hd
  replace SA := Lib.hid (SA.out.kept hd)
  replace SL := Lib.hid (SL.out.kept hd)
  clear hd
  rcases h2 with rfl | ⟨h20, h2⟩
  · go_wp2
    go_ret
    exact ⟨rfl, hb⟩
  have h3 : ¬ l1 < 0 := by omega
  have h4 : l1 ≤ 1048576 := by omega
  have hl2 : ms.length ≤ 1048576 := by omega
  clear h2 hl
  go_wp2_with fail
  refine (szResultS_any rs ra rcap l1 _ SL.out hlr HFR.out h20 h4).mono ?_
  rintro e w3 ⟨l2, rfl, h2, hd⟩
  replace hb := hb.trans (hd.mono hb.size)
  replace c1 := cell_kept c1 hd
  replace SA := Lib.hid (SA.out.kept hd)
  replace SL := Lib.hid (SL.out.kept hd)
  clear hd
  rcases h2 with rfl | ⟨h30, h2⟩
  · go_wp2
    go_ret
    exact ⟨rfl, hb⟩
  have h5 : ¬ l2 < 0 := by omega
  have hlr2 : rs.length ≤ 1048576 := by omega
  clear h2 h4 h3 h20 h30 hlr
  have hlen := pairRound_len ms rs
  -- the reference's answer
  go_wp2_with fail
  refine (toClub_any ms a cap _ SA.out hl2).mono ?_
  rintro e w4 ⟨r1, rfl, ho, hd⟩
  have S1 := Lib.hid (own_slice Mem.enc_len ho rfl)
  clear ho
  replace hb := hb.trans (hd.mono hb.size)
  replace c1 := cell_kept c1 hd
  replace SA := Lib.hid (SA.out.kept hd)
  replace SL := Lib.hid (SL.out.kept hd)
  clear hd
  go_wp2_with fail
  refine (toResultS_any rs ra rcap _ SL.out hlr2).mono ?_
  rintro e w5 ⟨r2, rfl, ho, hd⟩
  have S2 := Lib.hid (own_slice Res.enc_len ho rfl)
  clear ho
  replace hb := hb.trans (hd.mono hb.size)
  replace c1 := cell_kept c1 hd
  replace SA := Lib.hid (SA.out.kept hd)
  replace SL := Lib.hid (SL.out.kept hd)
  replace S1 := Lib.hid (S1.out.kept hd)
  clear hd
  go_wp2_with fail
  refine (specPairRound_any ms rs _ _ _ _ _ S1.out S2.out hl2 hlr2 hf HFR.out).mono ?_
  rintro e w6 ⟨a6, cap6, rfl, ho, hd⟩
  have S6 := Lib.hid (own_slice Pai.enc_len ho rfl)
  clear ho S1 S2
  replace hb := hb.trans (hd.mono hb.size)
  replace c1 := cell_kept c1 hd
  replace SA := Lib.hid (SA.out.kept hd)
  replace SL := Lib.hid (SL.out.kept hd)
  clear hd
  go_wp2_with fail
  have S6A := S6
  have SAA := SA
  have SLA := SL
  have hbA := hb
  replace hb : Below w6.heap.size w6 w6 := Below.refl _ _
  have b1 := block_lt c1
  -- the program's arguments
  refine (toClub_any ms a cap _ SA.out hl2).mono ?_
  rintro e w8 ⟨r9, rfl, O9, hd⟩
  have hr9 := O9.lt r9 rfl
  replace hb := hb.trans (hd.mono hb.size)
  replace c1 := cell_kept c1 hd
  replace SA := Lib.hid (SA.out.kept hd)
  replace SL := Lib.hid (SL.out.kept hd)
  clear hd
  have hd : Below w8.heap.size w8 (w8.alloc (.cells #[.slice (some ⟨r9, 0, none⟩) ms.length ms.length] 30)) := (Below.refl _ _).alloc (Nat.le_refl _) _
  have c9 := cell_new0 w8 #[.slice (some ⟨r9, 0, none⟩) ms.length ms.length] 30 (i := 0) (v := .slice (some ⟨r9, 0, none⟩) ms.length ms.length) rfl
  replace O9 := Lib.hid (own_below O9 hd)
  replace hb := hb.trans (hd.mono hb.size)
  replace c1 := cell_kept c1 hd
  replace SA := Lib.hid (SA.out.kept hd)
  replace SL := Lib.hid (SL.out.kept hd)
  clear hd
  go_wp2_with fail
  generalize w8.alloc (.cells #[.slice (some ⟨r9, 0, none⟩) ms.length ms.length] 30) = w9 at *
  have b9 := block_lt c9
  refine (toResultS_any rs ra rcap _ SL.out hlr2).mono ?_
  rintro e w10 ⟨rl, rfl, ol, hd⟩
  have hrl := ol.lt rl rfl
  have OL := Lib.hid ol
  clear ol
  replace hb := hb.trans (hd.mono hb.size)
  replace c1 := cell_kept c1 hd
  replace c9 := cell_kept c9 hd
  replace O9 := Lib.hid (own_below O9.out hd)
  replace SA := Lib.hid (SA.out.kept hd)
  replace SL := Lib.hid (SL.out.kept hd)
  clear hd
  have S9 := Lib.hid (own_slice Mem.enc_len O9.out rfl)
  have S9L := Lib.hid (own_slice Res.enc_len OL.out rfl)
  go_wp2_with fail
  refine (PairRound_any ms rs _ _ _ _ _ S9.out S9L.out hl2 hlr2 hf HFR.out).mono ?_
  rintro e w11 ⟨a10, cap10, rfl, o10, hd⟩
  replace hb := hb.trans (hd.mono hb.size)
  replace c1 := cell_kept c1 hd
  replace c9 := cell_kept c9 hd
  replace O9 := Lib.hid (own_below O9.out hd)
  replace OL := Lib.hid (own_below OL.out hd)
  replace SA := Lib.hid (SA.out.kept hd)
  replace SL := Lib.hid (SL.out.kept hd)
  replace S9 := Lib.hid (S9.out.kept hd)
  replace S9L := Lib.hid (S9L.out.kept hd)
  clear hd
  have b11 := (OL.out.lt rl rfl).2
  have b12 := block_lt c9
  have O10 := Lib.hid o10
  clear o10
  go_wp2_with fail
  have S10 := Lib.hid (own_slice Pai.enc_len O10.out rfl)
  have S6 := Lib.hid (S6A.out.kept hb)
  refine (eqPairingS_any (pairRound ms rs).1 a10 a6 cap10 cap6 _ S10.out S6.out (by omega)).mono ?_
  rintro e w13 ⟨rfl, hd⟩
  replace hb := hb.trans (hd.mono hb.size)
  replace c1 := cell_kept c1 hd
  replace c9 := cell_kept c9 hd
  replace O9 := Lib.hid (own_below O9.out hd)
  replace OL := Lib.hid (own_below OL.out hd)
  replace O10 := Lib.hid (own_below O10.out hd)
  replace SA := Lib.hid (SA.out.kept hd)
  replace SL := Lib.hid (SL.out.kept hd)
  replace S9 := Lib.hid (S9.out.kept hd)
  replace S9L := Lib.hid (S9L.out.kept hd)
  replace S10 := Lib.hid (S10.out.kept hd)
  clear hd
  go_upto_region 14 with fail
  have hk : Below w13.heap.size w13 w13.drew := (Below.refl _ _).drew
  have l_c9 := block_lt c9
  have l_c1 := block_lt c1
  have k_c9 : w13.drew.cell? ⟨w8.heap.size, 0, none⟩ = some (.slice (some ⟨r9, 0, none⟩) ms.length ms.length) := c9
  have k_c1 : w13.drew.cell? ⟨w.heap.size, 0, none⟩ = some (.slice a ms.length cap) := c1
  go_region_held3 (fun w' => w'.cell? ⟨w8.heap.size, 0, none⟩ = some (.slice (some ⟨r9, 0, none⟩) ms.length ms.length) ∧ w'.cell? ⟨w.heap.size, 0, none⟩ = some (.slice a ms.length cap))
    (first | exact ⟨k_c9, k_c1⟩ | exact ⟨(cell_alloc k_c9 _), (cell_alloc k_c1 _)⟩ | exact ⟨(cell_far k_c9 (by omega) _), (cell_far k_c1 (by omega) _)⟩ | exact ⟨(cell_newfar k_c9 _ _), (cell_newfar k_c1 _ _)⟩)
    (first
      | (go_at_call 14; refine (toClub_any ms a cap _ (SA.out.kept hk) hl2).mono ?_; rintro e wq ⟨gq, rfl, hoq, hdq⟩; have S0 := Lib.hid (own_slice Mem.enc_len hoq rfl); clear hoq;  (try replace hk := hk.trans (hdq.mono hk.size)); replace k_c9 := cell_kept k_c9 hdq; replace k_c1 := cell_kept k_c1 hdq; clear hdq)
      | (go_at_call 16; refine (eqClub_any ms _ _ _ _ _ (S9.out.kept hk) S0.out (by omega)).mono ?_; rintro e wq ⟨rfl, hdq⟩;   (try replace hk := hk.trans (hdq.mono hk.size)); replace k_c9 := cell_kept k_c9 hdq; replace k_c1 := cell_kept k_c1 hdq; clear hdq))
  replace hb := hb.trans (hk.mono hb.size)
  replace c1 := cell_kept c1 hk
  replace c9 := cell_kept c9 hk
  replace O9 := Lib.hid (own_below O9.out hk)
  replace OL := Lib.hid (own_below OL.out hk)
  replace O10 := Lib.hid (own_below O10.out hk)
  replace SA := Lib.hid (SA.out.kept hk)
  replace SL := Lib.hid (SL.out.kept hk)
  replace S9L := Lib.hid (S9L.out.kept hk)
  clear hk
  go_wp2_with fail
  refine (toResultS_any rs ra rcap _ SL.out hlr2).mono ?_
  rintro e w14 ⟨r14, rfl, ho, hd⟩
  have S14 := Lib.hid (own_slice Res.enc_len ho rfl)
  clear ho
  replace hb := hb.trans (hd.mono hb.size)
  replace c1 := cell_kept c1 hd
  replace c9 := cell_kept c9 hd
  replace O9 := Lib.hid (own_below O9.out hd)
  replace OL := Lib.hid (own_below OL.out hd)
  replace O10 := Lib.hid (own_below O10.out hd)
  replace SA := Lib.hid (SA.out.kept hd)
  replace SL := Lib.hid (SL.out.kept hd)
  replace S9L := Lib.hid (S9L.out.kept hd)
  clear hd
  go_wp2_with fail
  refine (eqResultS_any rs _ _ _ _ _ S9L.out S14.out (by omega)).mono ?_
  rintro e w15 ⟨rfl, hd⟩
  clear S14
  replace hb := hb.trans (hd.mono hb.size)
  replace c1 := cell_kept c1 hd
  replace c9 := cell_kept c9 hd
  replace O9 := Lib.hid (own_below O9.out hd)
  replace OL := Lib.hid (own_below OL.out hd)
  replace O10 := Lib.hid (own_below O10.out hd)
  replace SA := Lib.hid (SA.out.kept hd)
  replace SL := Lib.hid (SL.out.kept hd)
  clear hd
  go_wp2_with fail
  refine (markClub_any ms (some ⟨r9, 0, none⟩) ms.length _ 1 _ O9.out (by omega) (by omega) (by omega)).mono ?_
  rintro e w16 ⟨wz, hd, rfl, ho, hg⟩
  replace hb := hb.trans (hd.mono hb.size)
  replace c1 := cell_kept c1 hd
  replace c9 := cell_kept c9 hd
  replace OL := Lib.hid (own_below OL.out hd)
  replace O10 := Lib.hid (own_below O10.out hd)
  replace SA := Lib.hid (SA.out.kept hd)
  replace SL := Lib.hid (SL.out.kept hd)
  clear hd
  have hne9 : ∀ b, b ≠ r9 → some b ≠ (Value.slice (some ⟨r9, 0, none⟩) ms.length ms.length).ownBlock := fun b h e => by simp [Value.ownBlock] at e; exact h e
  replace c1 := hg.cell c1 (hne9 _ (by first | omega | (simp only; omega)))
  replace OL := Lib.hid (OL.out.kept hg (.inr fun h => by have := (OL.out.lt r9 h).1; omega))
  replace O10 := Lib.hid (O10.out.kept hg (.inr fun h => by have := (O10.out.lt r9 h).1; omega))
  replace hb := hb.grown hg hb.size (fun k hk => by have e := Option.some.inj (show some r9 = some k from hk); omega)
  clear hg ho hne9 O9 S9 c9
  go_wp2_with fail
  refine (markResultS_any rs (some ⟨rl, 0, none⟩) rs.length _ (1 + 2 * ms.length) _ OL.out (by omega) (by omega) (by omega)).mono ?_
  rintro e w17 ⟨rfl, ho, hg⟩
  have hne9 : ∀ b, b ≠ rl → some b ≠ (Value.slice (some ⟨rl, 0, none⟩) rs.length rs.length).ownBlock := fun b h e => by simp [Value.ownBlock] at e; exact h e
  replace c1 := hg.cell c1 (hne9 _ (by first | omega | (simp only; omega)))
  replace O10 := Lib.hid (O10.out.kept hg (.inr fun h => by have := (O10.out.lt rl h).1; omega))
  replace hb := hb.grown hg hb.size (fun k hk => by have e := Option.some.inj (show some rl = some k from hk); omega)
  clear hg ho hne9 OL
  replace SA := Lib.hid (SAA.out.kept hb)
  replace SL := Lib.hid (SLA.out.kept hb)
  replace S6 := Lib.hid (S6A.out.kept hb)
  replace S10 := Lib.hid (own_slice Pai.enc_len O10.out rfl)
  have hm1 : ¬ (1 : Int) + 2 * ms.length + 4 * rs.length < 0 := by omega
  go_wp2_with fail
  refine (eqPairingS_any (pairRound ms rs).1 a10 a6 cap10 cap6 _ S10.out S6.out (by omega)).mono ?_
  rintro e w18 ⟨rfl, hd⟩
  replace hb := hb.trans (hd.mono hb.size)
  replace c1 := cell_kept c1 hd
  replace O10 := Lib.hid (own_below O10.out hd)
  replace SA := Lib.hid (SA.out.kept hd)
  replace SL := Lib.hid (SL.out.kept hd)
  replace S6 := Lib.hid (S6.out.kept hd)
  clear hd
  go_wp2_with fail
  refine (markPairingS_any (pairRound ms rs).1 a10 cap10 _ 1 _ O10.out (by omega) (by omega) (by omega)).mono ?_
  rintro e w19 ⟨rfl, ho, hg⟩
  have hne10 : ∀ b, b < w10.heap.size → some b ≠ (Value.slice a10 (pairRound ms rs).1.length cap10).ownBlock := fun b h e => by have := (O10.out.lt _ e.symm).1; omega
  replace c1 := hg.cell c1 (hne10 _ (by first | omega | (simp only; omega)))
  replace hb := hb.grown hg hb.size (fun k hk => by have := (O10.out.lt _ hk).1; omega)
  replace SA := Lib.hid (SAA.out.kept hb)
  replace SL := Lib.hid (SLA.out.kept hb)
  replace S6 := Lib.hid (S6A.out.kept hb)
  have SM := Lib.hid (own_slice Pai.enc_len ho (Pai.marks_len 1 (pairRound ms rs).1.length).symm)
  clear hg ho hne10 O10 S10
  have hm2 : ¬ (1 : Int) + 2 * (pairRound ms rs).1.length < 0 := by omega
  go_wp2_with fail
  refine (heldPairingS_any (pairRound ms rs).1.length a10 cap10 1 _ SM.out (by omega) (by omega) (by omega)).mono ?_
  rintro e w20 ⟨rfl, hd⟩
  replace hb := hb.trans (hd.mono hb.size)
  replace c1 := cell_kept c1 hd
  replace SA := Lib.hid (SA.out.kept hd)
  replace SL := Lib.hid (SL.out.kept hd)
  replace S6 := Lib.hid (S6.out.kept hd)
  replace SM := Lib.hid (SM.out.kept hd)
  clear hd
  go_wp2_with fail
  refine (toClub_any ms a cap _ SA.out hl2).mono ?_
  rintro e w21 ⟨r1, rfl, ho, hd⟩
  have S1 := Lib.hid (own_slice Mem.enc_len ho rfl)
  clear ho
  replace hb := hb.trans (hd.mono hb.size)
  replace SL := Lib.hid (SL.out.kept hd)
  replace S6 := Lib.hid (S6.out.kept hd)
  replace SM := Lib.hid (SM.out.kept hd)
  clear hd
  go_wp2_with fail
  refine (toResultS_any rs ra rcap _ SL.out hlr2).mono ?_
  rintro e w22 ⟨r2, rfl, ho, hd⟩
  have S2 := Lib.hid (own_slice Res.enc_len ho rfl)
  clear ho
  replace hb := hb.trans (hd.mono hb.size)
  replace S1 := Lib.hid (S1.out.kept hd)
  replace S6 := Lib.hid (S6.out.kept hd)
  replace SM := Lib.hid (SM.out.kept hd)
  clear hd
  go_wp2_with fail
  refine (PairRound_any ms rs _ _ _ _ _ S1.out S2.out hl2 hlr2 hf HFR.out).mono ?_
  rintro e w23 ⟨a16, cap16, rfl, ho, hd⟩
  have S16 := Lib.hid (own_slice Pai.enc_len ho rfl)
  clear ho S1 S2
  replace hb := hb.trans (hd.mono hb.size)
  replace S6 := Lib.hid (S6.out.kept hd)
  replace SM := Lib.hid (SM.out.kept hd)
  clear hd
  go_wp2_with fail
  refine (eqPairingS_any (pairRound ms rs).1 a16 a6 cap16 cap6 _ S16.out S6.out (by omega)).mono ?_
  rintro e w25 ⟨rfl, hd⟩
  replace hb := hb.trans (hd.mono hb.size)
  replace SM := Lib.hid (SM.out.kept hd)
  clear hd
  go_wp2_with fail
  refine (heldPairingS_any (pairRound ms rs).1.length a10 cap10 1 _ SM.out (by omega) (by omega) (by omega)).mono ?_
  rintro e w26 ⟨rfl, hd⟩
  replace hb := hb.trans (hd.mono hb.size)
  go_wp2
  go_ret
  exact ⟨rfl, hbA.trans (hb.mono hbA.size)⟩
end Go.Proofs.Ytpodkgfapbcmlaa
