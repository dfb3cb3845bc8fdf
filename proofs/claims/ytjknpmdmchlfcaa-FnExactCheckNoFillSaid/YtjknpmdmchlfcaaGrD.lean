/- Contracts: the reference's words that fit into a slot, and a word put into it. For grids of at most 5 rows and columns. -/
import Derived.Test.YtjknpmdmchlfcaaGrC
import Derived.OwnWalk
import Derived.Laws.AppendOwn
import Derived.StillTailTactics
namespace Go.Proofs.Ytjknpmdmchlfcaa
open Go.ChangeShapes Go.WideShapes Go.ChangeAt Go.RowKit Go.Sort

theorem filter_succ {ws : List ByteArray} {p : ByteArray → Bool} {k : Nat} (h : k < ws.length) : (ws.take (k + 1)).filter p = (ws.take k).filter p ++ if p (ws.getD k ⟨#[]⟩) = true then [ws.getD k ⟨#[]⟩] else [] := by
  rw [List.take_succ_eq_append_getElem h, List.filter_append, getD_at h]
  congr 1
  simp only [List.filter_cons, List.filter_nil]
theorem filter_le {ws : List ByteArray} {p : ByteArray → Bool} (k : Nat) : ((ws.take k).filter p).length ≤ k := Nat.le_trans (List.length_filter_le _ _) (List.length_take_le _ _)
set_option maxRecDepth 100000 in
set_option maxHeartbeats 4000000 in
theorem l25Words_any (R C : Nat) (gs : ByteArray) (s : Slt) (ws : List ByteArray) (a : Option Addr) (wc b o pb po : Nat) (w : World) (hg : GAt w b o R C gs) (hs : SAt w pb po s) (hw : SliceAt w 1 Tx.enc a ws) (hl : ws.length ≤ 200) (hf : WordsFit ws) (hin : s.within R C) (hR : R ≤ 5) (hC : C ≤ 5) (hz : gs.size = R * C) :
    Calls Try.prog 54 #[.pointer (some ⟨b, o, none⟩), .slice a ws.length wc, .pointer (some ⟨pb, po, none⟩)] w (TextsPost w (candL C gs.data.toList s ws)) := by
  obtain ⟨i0, hi0, hi1, hi2, hi3⟩ := info_parts infoTx
  have HP := Lib.hid (l25Pattern_any R C gs s b o pb po w hg hs hin hR hC hz)
  have HW0 := Lib.hid hw
  have HF := Lib.hid hf
  have HCD : Hid (candL C gs.data.toList s ws = ws.filter fun x => fitsL (patL C gs.data.toList s) x.data.toList) := Lib.hid rfl
  have hps : (mkB (patL C gs.data.toList s)).size ≤ 9223372036854775807 := by
    rw [mkB_size, patL_len]
    unfold Slt.within at hin
    split at hin <;> omega
  have HFT : Hid (∀ x W, x.size ≤ 9223372036854775807 → Calls Try.prog 99 #[.string (mkB (patL C gs.data.toList s)), .string x] W fun e w' => e = .returned (.bool (fitsL (patL C gs.data.toList s) x.data.toList)) ∧ Drew W w') := Lib.hid (fun x W hx => by
    have := l25Fits_any (mkB (patL C gs.data.toList s)) x W hps hx
    rwa [mkB_data] at this)
  clear hps hf hin hz hg hs
  go_enter Try.func54, Try.ntmps54
  go_wp2_with fail
  refine HP.out.mono ?_
  rintro e w1 ⟨rfl, hd⟩
  have HM := Lib.hid (hw.kept hd)
  have hb := hd
  clear hd hw HP
  generalize mkB (patL C gs.data.toList s) = pt at *
  generalize hfp : (fun x : ByteArray => fitsL (patL C gs.data.toList s) x.data.toList) = fp at *
  have HFP : Hid (∀ x : ByteArray, fitsL (patL C gs.data.toList s) x.data.toList = fp x) := Lib.hid (fun x => by rw [← hfp])
  clear hfp
  have hx : Below w1.heap.size w1 (w1.alloc (.cells #[] 9)) := (Below.refl _ _).alloc (Nat.le_refl _) _
  have HO := Lib.hid (own_mono (World.ownsRow_made (base := w1.heap.size) (e := 9) (size := 1) w1 #[] 0 (Nat.le_refl _) (by unfold maxLen; omega) rfl) hb.size)
  replace HM := Lib.hid (HM.out.kept hx)
  replace hb := hb.trans (hx.mono hb.size)
  clear hx
  go_wp2_with fail
  go_loopw [8, 9] (fun ov iv wr => ∃ (k g cap : Nat), k ≤ ws.length ∧ iv = .int .i64 k ∧ ov = .slice (some ⟨g, 0, none⟩) ((ws.take k).filter fp).length cap ∧ Hid (wr.ownsRow w.heap.size 9 1 (.slice (some ⟨g, 0, none⟩) ((ws.take k).filter fp).length cap) ((ws.take k).filter fp).length (((ws.take k).filter fp).flatMap Tx.enc)) ∧ Hid (SliceAt wr 1 Tx.enc a ws) ∧ Below w.heap.size w wr) (fun _ iv _ => ws.length - (intOf iv).toNat)
  case atStart => exact ⟨0, _, 0, Nat.zero_le _, rfl, rfl, HO, HM, hb⟩
  case round =>
    clear HO HM hb
    obtain ⟨k, g, cap, hk, rfl, rfl, HO, HM, hb⟩ := hrel
    by_cases hlt : k < ws.length
    · obtain ⟨mb, mo, rfl, hc⟩ := HM.out.open hlt
      have c0 := words_cell hc hlt
      have hfx := fit_at HF.out k
      have HSU := Lib.hid (filter_succ (p := fp) hlt)
      have hfl := filter_le (ws := ws) (p := fp) k
      have HFX := Lib.hid (fun W => HFT.out (ws.getD k ⟨#[]⟩) W hfx)
      rw [HFP.out] at HFX
      clear hc hfx
      generalize ws.getD k ⟨#[]⟩ = x at *
      go_wp2_with fail
      refine (HFX.out _).mono ?_
      rintro e w2 ⟨rfl, hdr⟩
      have hd := hdr.bel
      replace HO := Lib.hid (own_below HO.out hd)
      replace HM := Lib.hid (HM.out.kept hd)
      replace c0 := cell_kept c0 hd
      replace hb := hb.trans (hd.mono hb.size)
      clear hdr hd HFX
      cases hp : fp x with
      | false =>
        have HN : Hid ((ws.take (k + 1)).filter fp = (ws.take k).filter fp) := Lib.hid (by rw [HSU.out, hp]; simp)
        clear hp HSU
        go_wp2
        go_roundw
        case rel => exact ⟨k + 1, g, cap, by omega, by go_num, by rw [HN.out], by rw [HN.out]; exact HO, HM, hb⟩
        case measure => simp [intOf]; omega
      | true =>
        have HN : Hid ((ws.take (k + 1)).filter fp = (ws.take k).filter fp ++ [x]) := Lib.hid (by rw [HSU.out, hp]; simp)
        clear hp HSU
        generalize (ws.take k).filter fp = xs at *
        have hx : Below w2.heap.size w2 (w2.alloc (.cells #[.string x] 9)) := (Below.refl _ _).alloc (Nat.le_refl _) _
        have KN := Lib.hid (new_tx w2 x 9)
        have hsz := hb.size
        replace HO := Lib.hid (own_below HO.out hx)
        replace HM := Lib.hid (HM.out.kept hx)
        replace hb := hb.trans (hx.mono hb.size)
        clear hx
        go_wp2_with (at_builtin; go_must (refine wpList_append_own _ rfl (.tmp 26) (.tmp 31) 24 rfl w.heap.size 9 i0 _ 1 16 Try.underlying24 hi0 hi1 hi2 hi3 rfl (by decide) _ xs.length (xs.flatMap Tx.enc) (by rfl) HO.out ⟨w2.heap.size, 0, none⟩ 1 1 (Tx.enc x) (by rfl) rfl KN.out (tx_one x) ?c1 ?c2 ?c3 ?_))
        case c1 => unfold maxLen; omega
        case c2 => omega
        case c3 => simp; omega
        intro v' w7 hown hgr hnil
        obtain ⟨g7, cap7, rfl, _⟩ := own_some hown (fun e => by have h := hnil; rw [e] at h; simp at h)
        have hb7 := hb.grown hgr hb.size (fun q e => (HO.out.lt q e).1)
        have HL7 : Hid ((xs ++ [x]).length = xs.length + 1) := Lib.hid (by simp)
        have HR7 := Lib.hid (own_as hown (flat_snoc Tx.enc xs _))
        have HM7 : Hid (SliceAt w7 1 Tx.enc (some ⟨mb, mo, none⟩) ws) := Lib.hid (HW0.out.kept hb7)
        clear hown hgr hnil KN HO hb HM
        go_wp2
        go_roundw
        case rel => exact ⟨k + 1, g7, cap7, by omega, by go_num, by rw [HN.out, HL7.out], by rw [HN.out, HL7.out]; exact HR7, HM7, hb7⟩
        case measure => simp [intOf]; omega
    · obtain rfl : k = ws.length := by omega
      have HE : Hid (candL C gs.data.toList s ws = (ws.take ws.length).filter fp) := Lib.hid (by rw [HCD.out, List.take_length])
      go_wp2
      go_ret
      exact ⟨g, cap, by rw [HE.out]; rfl, by rw [HE.out]; exact HO.out, hb⟩
set_option maxRecDepth 100000 in
set_option maxHeartbeats 4000000 in
theorem l25Put_any (R C : Nat) (gs : ByteArray) (s : Slt) (x : ByteArray) (b o pb po : Nat) (w : World) (hg : GAt w b o R C gs) (hs : SAt w pb po s) (hx : x.size = s.len) (hin : s.within R C) (hR : R ≤ 5) (hC : C ≤ 5) (hz : gs.size = R * C) :
    Calls Try.prog 55 #[.pointer (some ⟨b, o, none⟩), .pointer (some ⟨pb, po, none⟩), .string x] w fun e w' => e = .returned (.agg #[.int .i64 R, .int .i64 C, .string (mkB (putL C gs.data.toList s x.data.toList))]) ∧ Below w.heap.size w w' := by
  have hbw := hg.lt
  have hpw := block_lt hs.1
  have hx0 : Below w.heap.size w (w.alloc (.cells #[.int .i64 0, .int .i64 0, .string ⟨#[]⟩] 31)) := (Below.refl _ _).alloc (Nat.le_refl _) _
  have V0 := Lib.hid (VarAt.new w 31 [.int .i64 0, .int .i64 0, .string ⟨#[]⟩])
  have HG := Lib.hid (hg.kept hx0)
  have HS := Lib.hid (hs.kept hx0)
  have HXL : Hid (x.data.toList.length = s.len) := Lib.hid (by rw [← hx]; simp)
  have HSM := Lib.hid (fun h => within_small hin hR hC h)
  have HIX : Hid (∀ k, k < s.len → sqr C s k < gs.size) := Lib.hid (fun k hk => by rw [hz]; exact sqr_lt hin hk)
  have hln : s.len ≤ 5 := by unfold Slt.within at hin; split at hin <;> omega
  have HXS := Lib.hid hx
  obtain ⟨cp, w1, hcp, hcv, hr, hd⟩ := bytes_of gs (w.alloc (.cells #[.int .i64 0, .int .i64 0, .string ⟨#[]⟩] 31))
  have HR := Lib.hid hr
  have hsz0 : (w.alloc (.cells #[.int .i64 0, .int .i64 0, .string ⟨#[]⟩] 31)).heap.size = w.heap.size + 1 := by simp
  rw [hsz0] at hcv HR
  have HGS : Hid (gs.data.toList.length = gs.size) := Lib.hid (by simp)
  have g0 := HG.out.1
  have g1 := HG.out.2.1
  have g2 := HG.out.2.2
  clear hg hs hin hz hx hr hsz0
  go_enter Try.func55, Try.ntmps55
  go_upto_region 2 with fail
  clear hcv g0 g1 g2
  replace V0 := Lib.hid (V0.out.kept hd)
  replace HG := Lib.hid (HG.out.kept hd)
  replace HS := Lib.hid (HS.out.kept hd)
  have hb := hx0.trans (hd.mono hx0.size)
  clear hd hx0
  go_wp2_with fail
  go_loopw [8] (fun iv wr => ∃ k : Nat, k ≤ s.len ∧ iv = .int .i64 k ∧ Hid (RowB wr (w.heap.size + 1) (putK C gs.data.toList s x.data.toList k)) ∧ Hid (VarAt wr w.heap.size 31 [.int .i64 0, .int .i64 0, .string ⟨#[]⟩]) ∧ Hid (GAt wr b o R C gs) ∧ Hid (SAt wr pb po s) ∧ Below w.heap.size w wr) (fun iv _ => s.len - (intOf iv).toNat)
  case atStart => exact ⟨0, Nat.zero_le _, rfl, HR, V0, HG, HS, hb⟩
  case round =>
    clear HR V0 HG HS hb
    obtain ⟨k, hk, rfl, HR, V0, HG, HS, hb⟩ := hrel
    obtain ⟨s0, s1, s2, s3⟩ := HS.out
    by_cases hlt : k < s.len
    · obtain ⟨m1, m2, _⟩ := HSM.out (by omega)
      have hix := HIX.out k hlt
      have hxk : k < x.size := by rw [HXS.out]; exact hlt
      have HPL := Lib.hid (putK_len C gs.data.toList s x.data.toList k)
      have HQ : Hid (∀ W, GAt W b o R C gs → SAt W pb po s → Calls Try.prog 100 #[.pointer (some ⟨b, o, none⟩), .pointer (some ⟨pb, po, none⟩), .int .i64 k] W fun e w' => e = .returned (.int .i64 (sqr C s k : Int)) ∧ Drew W w') := Lib.hid (fun W h1 h2 => l25Square_any R C gs s k b o pb po W h1 h2 m1 m2 hC (by omega))
      have HT : Hid (putK C gs.data.toList s x.data.toList (k + 1) = (putK C gs.data.toList s x.data.toList k).set (sqr C s k) x[k]) := Lib.hid (by rw [putK_succ, getD_byte hxk])
      clear m1 m2
      generalize putK C gs.data.toList s x.data.toList k = P at *
      generalize sqr C s k = j at *
      have hjc : (j : Int) < (cp : Int) := by omega
      go_upto_region 5 with fail
      have hk2 : Below wr.heap.size wr wr.drew := (Below.refl _ _).drew
      go_region_with
        ((go_at_call 100; refine (HQ.out _ (HG.out.kept hk2) (HS.out.kept hk2)).mono ?_; rintro e wq ⟨rfl, hdq⟩; have hdd := hdq.bel; replace hk2 := hk2.trans (hdd.mono hk2.size); have HRQ := Lib.hid (HR.out.kept hk2); have st := HRQ.out.cell (i := j) (by rw [HPL.out, HGS.out]; exact hix); have sf := HRQ.out.free (i := j) (by rw [HPL.out, HGS.out]; exact hix); clear hdq hdd))
      all_goals
        obtain ⟨h9, k9⟩ := HRQ.out.set j x[k]
        have HR9 := Lib.hid (h9.as HT.out.symm)
        have V9 := Lib.hid ((V0.out.kept hk2).grown k9 (by simp))
        have HG9 := Lib.hid ((HG.out.kept hk2).grown k9 (by simp; omega))
        have HS9 := Lib.hid ((HS.out.kept hk2).grown k9 (by simp; omega))
        have hb9 := (hb.trans (hk2.mono hb.size)).grown k9 (Nat.le_trans hb.size hk2.size) (fun q h => by cases h; omega)
        clear h9 k9 HRQ hk2 s0 s1 s2 s3
        go_wp2
        go_roundw
        case rel => exact ⟨k + 1, by omega, by go_num, HR9, V9, HG9, HS9, hb9⟩
        case measure => simp [intOf]; omega
    · obtain rfl : k = s.len := by omega
      have HPL := Lib.hid (putK_len C gs.data.toList s x.data.toList s.len)
      have HPE : Hid (putL C gs.data.toList s x.data.toList = putK C gs.data.toList s x.data.toList s.len) := Lib.hid (by rw [putL_eq, HXL.out])
      generalize putK C gs.data.toList s x.data.toList s.len = P at *
      go_upto_region 6 with fail
      have hk2 : Below wr.heap.size wr wr.drew := (Below.refl _ _).drew
      have V0d := Lib.hid (V0.out.kept hk2)
      have HRd := Lib.hid (HR.out.kept hk2)
      have HGd := Lib.hid (HG.out.kept hk2)
      have hbd := hb.trans (hk2.mono hb.size)
      clear V0 HR HG HS hb hk2 s0 s1 s2 s3
      refine wp_region_still_tail 11 (by kernel_rfl) (by kernel_rfl) ?_
      simp only [List.take_succ_cons, List.take_zero, List.drop_succ_cons, List.drop_zero]
      change wpStill _ _ wr.drew (fun a' => wpList _ _ _ _ a' wr.drew) _ _
      generalize wr.drew = wd at *
      obtain ⟨g0, g1, g2⟩ := HGd.out
      have hcv := HRd.out.str (n := gs.size) (cap := cp) (by rw [HPL.out, HGS.out])
      repeat still_step
      refine wpStill_nil ?_
      have q0 := V0d.out.cell (i := 0) rfl
      have q1 := V0d.out.cell (i := 1) rfl
      have q2 := V0d.out.cell (i := 2) rfl
      have p0 := V0d.out.free 0
      have p1 := V0d.out.free 1
      have p2 := V0d.out.free 2
      obtain ⟨o0, k0⟩ := V0d.out.set 0 (.int .i64 R)
      obtain ⟨o1, k1⟩ := o0.set 1 (.int .i64 C)
      obtain ⟨o2, k2⟩ := o1.set 2 (.string (mkB P))
      have GG := grownBy_trans (grownBy_trans k0 k1) k2
      have hb9 := hbd.grown GG hbd.size (fun q h => by cases h; exact Nat.le_refl _)
      have e0 := o2.cell (i := 0) (v := .int .i64 R) rfl
      have e1 := o2.cell (i := 1) (v := .int .i64 C) rfl
      have e2 := o2.cell (i := 2) (v := .string (mkB P)) rfl
      clear o0 o1 o2 k0 k1 k2 GG hcv
      go_wp2
      refine bodyPost_ret (v := .agg #[.int .i64 R, .int .i64 C, .string (mkB P)]) (by simp [results, Try.results55, go_sem, e0, e1, e2]) rfl ?_
      exact ⟨by rw [HPE.out], hb9⟩
end Go.Proofs.Ytjknpmdmchlfcaa
