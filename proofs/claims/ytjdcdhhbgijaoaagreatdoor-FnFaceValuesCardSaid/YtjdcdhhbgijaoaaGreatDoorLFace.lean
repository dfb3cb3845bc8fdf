/- The law of FnFaceValues: for every code the statement's own function answers true. Leans on Go's tables (CEnv) and internal/bytealg's MaxLen (EnvL). -/
import Derived.Test.YtjdcdhhbgijaoaaGreatDoorLfP
import Derived.Test.YtjdcdhhbgijaoaaGreatDoorDtD
import Derived.Deep.DeepCutAuto
import Derived.Deep.CutBlock
import Derived.BigQuiet
namespace Go.Proofs.YtjdcdhhbgijaoaaGreatDoor
open Go.ChangeShapes Go.WideShapes Go.ChangeAt Go.RowKit Go.Sort

set_option maxRecDepth 100000 in
set_option maxHeartbeats 8000000 in
theorem lawFaceValues_any (ca : Option Addr) (ccap : Nat) (bs : List Int) (w : World) (hs : SliceAt w 1 Byt.enc ca bs) (hbd : ∀ x ∈ bs, 0 ≤ x ∧ x ≤ 255) (hE : CEnv w) (hL : EnvL w) :
    Calls Tryz.prog 5 #[.slice ca bs.length ccap] w fun e w' => e = .returned (.bool true) ∧ Below w.heap.size w w' := by
  by_cases hbig : 4096 < bs.length
  · have hd : decide ((4096 : Int) < bs.length) = true := by rw [decide_eq_true_eq]; omega
    clear hs hbd hE hL
    go_enter Tryz.func5, Tryz.ntmps5
    go_wp2_with fail
    refine (f6big_ct ca bs.length ccap w).mono ?_
    rintro e w1 ⟨rfl, rfl⟩
    rw [hd]
    go_wp2
    go_ret
    exact ⟨rfl, Below.refl _ _⟩
  · have hd : decide ((4096 : Int) < bs.length) = false := by rw [decide_eq_false_iff_not]; omega
    have HC : Hid (CodeAt w w.heap.size ca bs) := Lib.hid ⟨hs, hbd, by omega, fun h0 cb co e => by
      obtain ⟨b', o', e', hc⟩ := hs.open h0
      rw [e] at e'
      simp only [Option.some.injEq, Addr.mk.injEq, and_true] at e'
      rw [e'.1]
      exact block_lt (hc.at0 h0 rfl)⟩
    have HE := Lib.hid hE
    have HLL := Lib.hid hL
    clear hs hbd hE hL
    go_enter Tryz.func5, Tryz.ntmps5
    go_wp2_with fail
    refine (f6big_ct ca bs.length ccap w).mono ?_
    rintro e w1 ⟨rfl, rfl⟩
    rw [hd]
    clear hd hbig
    go_wp2_with fail
    refine (DrawBestPlay_any ca ccap bs w HC.out).mono ?_
    rintro e w2 ⟨x, q, b, ps, g, m, cap, hl1, hl2, hl3, hP, hC, rfl, hm, hy, rfl, hax, hsx, hb⟩
    obtain ⟨r, rs, cd, v, cv, K⟩ := faceK x q b ps g cap ⟨by omega, by omega, by omega⟩ (by omega) ⟨by omega, by omega⟩ (by omega) (fun p hp => Nat.le_trans (hy p hp) (by decide))
    have HK := Lib.hid K
    have hd : Below w2.heap.size w2 ((w2.alloc (.cells #[.string x.letters, .slice q.values.a x.values.length q.values.c, .slice q.counts.a x.counts.length q.counts.c, .int .i64 x.blanks] 44)).alloc (.cells #[.int .i64 b.size, .string b.premium, .string b.cells] 25)) := ((Below.refl _ _).alloc (Nat.le_refl _) _).alloc (by simp) _
    have V3 := Lib.hid ((VarAt.new w2 44 [.string x.letters, .slice q.values.a x.values.length q.values.c, .slice q.counts.a x.counts.length q.counts.c, .int .i64 x.blanks]).kept ((Below.refl _ _).alloc (Nat.le_refl _) (.cells #[.int .i64 b.size, .string b.premium, .string b.cells] 25)))
    have V4 : Hid (VarAt ((w2.alloc (.cells #[.string x.letters, .slice q.values.a x.values.length q.values.c, .slice q.counts.a x.counts.length q.counts.c, .int .i64 x.blanks] 44)).alloc (.cells #[.int .i64 b.size, .string b.premium, .string b.cells] 25)) (w2.heap.size + 1) 25 [.int .i64 b.size, .string b.premium, .string b.cells]) := by
      have := VarAt.new (w2.alloc (.cells #[.string x.letters, .slice q.values.a x.values.length q.values.c, .slice q.counts.a x.counts.length q.counts.c, .int .i64 x.blanks] 44)) 25 [.int .i64 b.size, .string b.premium, .string b.cells]
      simp only [World.size_alloc] at this
      exact Lib.hid this
    have SX := Lib.hid (hsx.kept hd)
    have AX := Lib.hid (hax.kept hd)
    replace hb := hb.trans (hd.mono hb.size)
    clear hd hsx hax hl1 hl2 hl3 hP hC hy HC K
    generalize hB : w2.heap.size = B3 at *
    obtain ⟨w3, hw⟩ : ∃ wE, (w2.alloc (.cells #[.string x.letters, .slice q.values.a x.values.length q.values.c, .slice q.counts.a x.counts.length q.counts.c, .int .i64 x.blanks] 44)).alloc (.cells #[.int .i64 b.size, .string b.premium, .string b.cells] 25) = wE := ⟨_, rfl⟩
    rw [hw] at hb V3 V4 SX AX
    have t0 := V3.out.cell (i := 0) (v := .string x.letters) rfl
    have t1 := V3.out.cell (i := 1) (v := .slice q.values.a x.values.length q.values.c) rfl
    have t2 := V3.out.cell (i := 2) (v := .slice q.counts.a x.counts.length q.counts.c) rfl
    have t3 := V3.out.cell (i := 3) (v := .int .i64 x.blanks) rfl
    have b0 := V4.out.cell (i := 0) (v := .int .i64 b.size) rfl
    have b1 := V4.out.cell (i := 1) (v := .string b.premium) rfl
    have b2 := V4.out.cell (i := 2) (v := .string b.cells) rfl
    go_wp2_with fail
    clear hw hB
    refine (HK.out.bp1 w3 AX.out (HE.out.kept hb) SX.out).mono ?_
    rintro e w4 ⟨rfl, hd⟩
    clear t0 t1 t2 t3 b0 b1 b2
    replace hb := hb.trans (Below.mono hd hb.size)
    replace V3 := Lib.hid (V3.out.kept hd)
    replace V4 := Lib.hid (V4.out.kept hd)
    replace SX := Lib.hid (SX.out.kept hd)
    replace AX := Lib.hid (AX.out.kept hd)
    clear hd
    have t0 := V3.out.cell (i := 0) (v := .string x.letters) rfl
    have t1 := V3.out.cell (i := 1) (v := .slice q.values.a x.values.length q.values.c) rfl
    have t2 := V3.out.cell (i := 2) (v := .slice q.counts.a x.counts.length q.counts.c) rfl
    have t3 := V3.out.cell (i := 3) (v := .int .i64 x.blanks) rfl
    have b0 := V4.out.cell (i := 0) (v := .int .i64 b.size) rfl
    have b1 := V4.out.cell (i := 1) (v := .string b.premium) rfl
    have b2 := V4.out.cell (i := 2) (v := .string b.cells) rfl
    go_wp2_with fail
    refine (HK.out.bp2 w4 AX.out SX.out).mono ?_
    rintro e w5 ⟨rfl, hd⟩
    clear t0 t1 t2 t3 b0 b1 b2
    replace hb := hb.trans (Below.mono hd hb.size)
    replace V3 := Lib.hid (V3.out.kept hd)
    replace V4 := Lib.hid (V4.out.kept hd)
    replace SX := Lib.hid (SX.out.kept hd)
    replace AX := Lib.hid (AX.out.kept hd)
    clear hd
    have t0 := V3.out.cell (i := 0) (v := .string x.letters) rfl
    have t1 := V3.out.cell (i := 1) (v := .slice q.values.a x.values.length q.values.c) rfl
    have t2 := V3.out.cell (i := 2) (v := .slice q.counts.a x.counts.length q.counts.c) rfl
    have t3 := V3.out.cell (i := 3) (v := .int .i64 x.blanks) rfl
    have b0 := V4.out.cell (i := 0) (v := .int .i64 b.size) rfl
    have b1 := V4.out.cell (i := 1) (v := .string b.premium) rfl
    have b2 := V4.out.cell (i := 2) (v := .string b.cells) rfl
    go_wp2_with fail
    refine (HK.out.fv1 w5 AX.out (HE.out.kept hb) (HLL.out.kept hb)).mono ?_
    rintro e w6 ⟨rfl, hd⟩
    clear t0 t1 t2 t3 b0 b1 b2
    replace hb := hb.trans (Below.mono hd hb.size)
    replace V3 := Lib.hid (V3.out.kept hd)
    replace V4 := Lib.hid (V4.out.kept hd)
    replace SX := Lib.hid (SX.out.kept hd)
    replace AX := Lib.hid (AX.out.kept hd)
    clear hd
    have t0 := V3.out.cell (i := 0) (v := .string x.letters) rfl
    have t1 := V3.out.cell (i := 1) (v := .slice q.values.a x.values.length q.values.c) rfl
    have t2 := V3.out.cell (i := 2) (v := .slice q.counts.a x.counts.length q.counts.c) rfl
    have t3 := V3.out.cell (i := 3) (v := .int .i64 x.blanks) rfl
    have b0 := V4.out.cell (i := 0) (v := .int .i64 b.size) rfl
    have b1 := V4.out.cell (i := 1) (v := .string b.premium) rfl
    have b2 := V4.out.cell (i := 2) (v := .string b.cells) rfl
    go_wp2_with fail
    refine (HK.out.fv2 w6 AX.out).mono ?_
    rintro e w7 ⟨rfl, hd⟩
    clear t0 t1 t2 t3 b0 b1 b2
    replace hb := hb.trans (Below.mono hd hb.size)
    replace V3 := Lib.hid (V3.out.kept hd)
    replace V4 := Lib.hid (V4.out.kept hd)
    replace SX := Lib.hid (SX.out.kept hd)
    replace AX := Lib.hid (AX.out.kept hd)
    clear hd
    have HONE := Lib.hid HK.out.one
    clear HK
    have hkk := Below.refl w7.heap.size w7
    go_wp2_with fail
    go_loopw [16] (fun iv wr => ∃ k : Nat, k ≤ ps.length ∧ iv = .int .i64 k ∧ Below w7.heap.size w7 wr) (fun iv _ => ps.length - (intOf iv).toNat)
    case atStart => exact ⟨0, Nat.zero_le _, rfl, hkk⟩
    case round =>
      clear hkk
      obtain ⟨k, hk9, rfl, hk⟩ := hrel
      by_cases hcd : cd = 0
      · by_cases hlt : k < ps.length
        · subst hcd
          obtain ⟨X, T, n, y, s, K1⟩ := HONE.out rfl k hlt
          have HO := Lib.hid K1
          have hle := K1.le
          have hyv := K1.eq
          have hsl := K1.lo
          have hsh := K1.hi
          clear K1 HONE
          have hnle : ¬ rs < n := by omega
          have wvs : IntKind.i64.wrap (v + s) = v + s := IntWalk.i64_in _ (by omega)
          have hne : (y != v + s) = false := by rw [hyv]; exact bne_self_eq_false _
          have hkI : (k : Int) < (ps.length : Int) := by omega
          have hk0 : (0 : Int) ≤ (k : Int) := by omega
          clear hyv hsl hsh hle
          replace hb := hb.trans (Below.mono hk hb.size)
          replace V3 := Lib.hid (V3.out.kept hk)
          replace V4 := Lib.hid (V4.out.kept hk)
          replace SX := Lib.hid (SX.out.kept hk)
          replace AX := Lib.hid (AX.out.kept hk)
          have HEW := Lib.hid (HE.out.kept hb)
          obtain ⟨_, _, e9, hc⟩ := SX.out.open hlt
          cases e9
          have hgl : g < wr.heap.size := block_lt (hc k hlt 0 _ rfl)
          have HPR : Hid (∀ W, Below wr.heap.size wr W → W.rangeAt g (k * 4) (Ply.enc ps[k])) := Lib.hid (fun W h j v hv => by
            have := cell_kept (hc k hlt j v hv) h
            rwa [Nat.zero_add] at this)
          have SXR : Hid (∀ W, Below wr.heap.size wr W → SliceAt W 4 Ply.enc (some ⟨g, 0, none⟩) ps) := Lib.hid (fun W h => SX.out.kept h)
          have AXR : Hid (∀ W, Below wr.heap.size wr W → x.At q W) := Lib.hid (fun W h => AX.out.kept h)
          clear hc
          generalize ps[k] = p at *
          have hr := Below.refl wr.heap.size wr
          have hk7 := hk
          have hbw := hb.size
          have hlt4 := V4.out.lt
          have hlt3 := V3.out.lt
          have t0 := V3.out.cell (i := 0) (v := .string x.letters) rfl
          have t1 := V3.out.cell (i := 1) (v := .slice q.values.a x.values.length q.values.c) rfl
          have t2 := V3.out.cell (i := 2) (v := .slice q.counts.a x.counts.length q.counts.c) rfl
          have t3 := V3.out.cell (i := 3) (v := .int .i64 x.blanks) rfl
          have b0 := V4.out.cell (i := 0) (v := .int .i64 b.size) rfl
          have b1 := V4.out.cell (i := 1) (v := .string b.premium) rfl
          have b2 := V4.out.cell (i := 2) (v := .string b.cells) rfl
          have p0 := HPR.out wr hr 0 (.int .i64 p.row) rfl
          have p1 := HPR.out wr hr 1 (.int .i64 p.col) rfl
          have p2 := HPR.out wr hr 2 (.bool p.down) rfl
          have p3 := HPR.out wr hr 3 (.string p.word) rfl
          simp only [Nat.add_zero] at p0
          go_upto_region 13 with fail
          have et0 := cell_regrown t0
          have et1 := cell_regrown t1
          have et2 := cell_regrown t2
          have et3 := cell_regrown t3
          have eb0 := cell_regrown b0
          have eb1 := cell_regrown b1
          have eb2 := cell_regrown b2
          have ep0 := cell_regrown p0
          have ep1 := cell_regrown p1
          have ep2 := cell_regrown p2
          have ep3 := cell_regrown p3
          refine wp_region_quiet_below (by kernel_rfl) (by kernel_rfl) ?_
          repeat (go_big_quiet_step ((first
            | (go_at_call 22; exact Calls.regrown_of (HO.out.sc _ (AX.out.kept (below_regrown _ _ _)) (HEW.out.kept (below_regrown _ _ _)))))))
          refine wpQuiet_nil ?_
          intro w8 hw'
          have hd : Below wr.heap.size wr w8 := below_of_ex hw'
          clear hw' et0 et1 et2 et3 eb0 eb1 eb2 ep0 ep1 ep2 ep3 t0 t1 t2 t3 b0 b1 b2 p0 p1 p2 p3 HEW
          replace hb := hb.trans (Below.mono hd hb.size)
          replace V3 := Lib.hid (V3.out.kept hd)
          replace V4 := Lib.hid (V4.out.kept hd)
          replace SX := Lib.hid (SX.out.kept hd)
          replace AX := Lib.hid (AX.out.kept hd)
          replace hk := hk.trans (Below.mono hd hk.size)
          replace hr := hr.trans (Below.mono hd hr.size)
          clear hd
          go_upto_region 14 with fail
          have hd : Below w8.heap.size w8 w8.drew := (Below.refl _ _).drew
          replace hb := hb.trans (Below.mono hd hb.size)
          replace V3 := Lib.hid (V3.out.kept hd)
          replace V4 := Lib.hid (V4.out.kept hd)
          replace SX := Lib.hid (SX.out.kept hd)
          replace AX := Lib.hid (AX.out.kept hd)
          replace hk := hk.trans (Below.mono hd hk.size)
          replace hr := hr.trans (Below.mono hd hr.size)
          clear hd
          have hS : w8.drew.rangeAt (B3 + 1) 0 [.int .i64 b.size, .string b.premium, .string b.cells] ∧ w8.drew.rangeAt g (k * 4) (Ply.enc p) := ⟨V4.out.range, HPR.out _ hr⟩
          refine wp_region_held_drew (S := fun W => W.rangeAt (B3 + 1) 0 [.int .i64 b.size, .string b.premium, .string b.cells] ∧ W.rangeAt g (k * 4) (Ply.enc p)) (by kernel_rfl) hS (fun hHeld => ?_)
          generalize w8.drew = wD at *
          refine slotA 0 105 (.agg #[.int .i64 b.size, .string b.premium, .string b.cells]) ?_ (hy := yieldsIf_load_mid (by rfl) 25 _ rfl (B3 + 1) 0 rfl [.int .i64 b.size, .string b.premium, .string b.cells] _ (fun w' hS => hS.1) Tryz.underlying25 rfl (by kernel_rfl))
          simp only [S3]
          refine slotA 1 106 (.slice (some ⟨g, 0, none⟩) ps.length cap) ?_
          simp only [S3]
          refine slotA 2 107 (.int .i64 (k : Int)) ?_
          simp only [S3]
          refine slotA 3 108 (.pointer (some ⟨g, k * 4, none⟩)) ?_
          simp only [S3]
          refine slotA 4 109 (.agg #[.int .i64 p.row, .int .i64 p.col, .bool p.down, .string p.word]) ?_ (hy := yieldsIf_load_mid (by rfl) 30 _ rfl g (k * 4) rfl (Ply.enc p) _ (fun w' hS => hS.2) Tryz.underlying30 rfl (by kernel_rfl))
          simp only [S3]
          clear hHeld
          refine wpAnyH_ready (rs := [5, 9]) (by kernel_rfl) (by simp) ?_
          refine AllReadyH.cons (o := _) rfl (fun K hK => ?_) (AllReadyH.cons (o := _) rfl (fun K hK => ?_) AllReadyH.nil)
          · go_simp
            refine (HO.out.mp _ (HE.out.kept hb)).mono ?_
            rintro e w9 ⟨rfl, hd⟩
            replace hb := hb.trans (Below.mono hd hb.size)
            replace V3 := Lib.hid (V3.out.kept hd)
            replace V4 := Lib.hid (V4.out.kept hd)
            replace SX := Lib.hid (SX.out.kept hd)
            replace AX := Lib.hid (AX.out.kept hd)
            replace hk := hk.trans (Below.mono hd hk.size)
            replace hr := hr.trans (Below.mono hd hr.size)
            clear hd hS
            go_wp2_with fail
            refine hK.out _ _ ⟨V4.out.range, HPR.out _ hr⟩ (fun hHeld => ?_)
            clear hK K hHeld
            have hS : w9.rangeAt (B3 + 1) 0 [.int .i64 b.size, .string b.premium, .string b.cells] ∧ w9.rangeAt g (k * 4) (Ply.enc p) := ⟨V4.out.range, HPR.out _ hr⟩
            refine slotA 6 104 (.tuple #[.agg #[.int .i64 X.size, .string X.premium, .string X.cells], .int .i64 0]) ?_
            simp only [S3]
            refine slotA 7 111 (.agg #[.int .i64 X.size, .string X.premium, .string X.cells]) ?_
            simp only [S3]
            refine slotA 8 112 (.int .i64 0) ?_
            simp only [S3]
            refine wpAnyH_ready (rs := [9]) (by kernel_rfl) (by simp) ?_
            refine AllReadyH.cons (o := _) rfl (fun K hK => ?_) AllReadyH.nil
            have hx : Below w9.heap.size w9 (w9.alloc (.cells #[.int .i64 0, .string ⟨#[]⟩, .string ⟨#[]⟩] 25)) := (Below.refl _ _).alloc (Nat.le_refl _) _
            have V19 := Lib.hid (VarAt.new w9 25 [.int .i64 0, .string ⟨#[]⟩, .string ⟨#[]⟩])
            have hz9 := hr.size
            have hl4 := V4.out.lt
            replace hb := hb.trans (Below.mono hx hb.size)
            replace V3 := Lib.hid (V3.out.kept hx)
            replace V4 := Lib.hid (V4.out.kept hx)
            replace SX := Lib.hid (SX.out.kept hx)
            replace AX := Lib.hid (AX.out.kept hx)
            replace hk := hk.trans (Below.mono hx hk.size)
            replace hr := hr.trans (Below.mono hx hr.size)
            clear hx hS
            go_simp
            refine hK.out _ _ ⟨V4.out.range, HPR.out _ hr⟩ (fun hHeld => ?_)
            clear hK K hHeld
            generalize w9.alloc (.cells #[.int .i64 0, .string ⟨#[]⟩, .string ⟨#[]⟩] 25) = w10 at *
            generalize hB9 : w9.heap.size = B19 at *
            have hz7 : w7.heap.size ≤ B19 := by have := Below.size hk7; omega
            refine wpAnyH_ready (rs := [10]) (by kernel_rfl) (by simp) ?_
            refine AllReadyH.cons (o := _) rfl (fun K hK => ?_) AllReadyH.nil
            obtain ⟨o2, GG⟩ := V19.out.put [.int .i64 X.size, .string X.premium, .string X.cells] rfl
            have tR := V19.out.there (n := 3) rfl
            refine mk_store rfl rfl 25 (.tmp 19) (.tmp 111) rfl B19 0 #[.int .i64 X.size, .string X.premium, .string X.cells] rfl rfl tR (by kernel_rfl) (by simp [Value.oneCell']) ?_
            have hgr := HPR.out _ hr
            have hgz := hr.size
            replace V3 := Lib.hid (V3.out.grown GG (by simp; omega))
            replace V4 := Lib.hid (V4.out.grown GG (by simp; omega))
            replace hk := hk.grown GG hk.size (fun q h => by cases h; omega)
            replace hb := hb.grown GG hb.size (fun q h => by cases h; omega)
            replace hr := hr.grown GG hr.size (fun q h => by cases h; omega)
            replace V19 := Lib.hid o2
            replace SX := Lib.hid (SXR.out _ hr)
            replace AX := Lib.hid (AXR.out _ hr)
            refine hK.out _ _ ⟨V4.out.range, HPR.out _ hr⟩ (fun hHeld9 => ?_)
            clear hK K tR o2 GG hHeld9 hgr hgz
            change wpAnyH _ _ _ _ _ _ _ _ (World.setCells _ B19 0 [.int .i64 X.size, .string X.premium, .string X.cells])
            generalize World.setCells _ B19 0 [.int .i64 X.size, .string X.premium, .string X.cells] = wz at *
            have hS : wz.rangeAt (B3 + 1) 0 [.int .i64 b.size, .string b.premium, .string b.cells] ∧ wz.rangeAt g (k * 4) (Ply.enc p) := ⟨V4.out.range, HPR.out _ hr⟩
            refine slotA 11 20 (.int .i64 0) ?_
            simp only [S3]
            clear hS
            refine wpAnyH_done (by kernel_rfl) ?_ _
            have HEZ := Lib.hid (HE.out.kept hb)
            have b0 := V4.out.cell (i := 0) (v := .int .i64 b.size) rfl
            have b1 := V4.out.cell (i := 1) (v := .string b.premium) rfl
            have b2 := V4.out.cell (i := 2) (v := .string b.cells) rfl
            have p0 := HPR.out wz hr 0 (.int .i64 p.row) rfl
            have p1 := HPR.out wz hr 1 (.int .i64 p.col) rfl
            have p2 := HPR.out wz hr 2 (.bool p.down) rfl
            have p3 := HPR.out wz hr 3 (.string p.word) rfl
            simp only [Nat.add_zero] at p0
            go_upto_region 15 with fail
            have eb0 := cell_regrown b0
            have eb1 := cell_regrown b1
            have eb2 := cell_regrown b2
            have ep0 := cell_regrown p0
            have ep1 := cell_regrown p1
            have ep2 := cell_regrown p2
            have ep3 := cell_regrown p3
            refine wp_region_quiet_below (by kernel_rfl) (by kernel_rfl) ?_
            repeat (go_big_quiet_step ((first
              | (go_at_call 40; exact Calls.regrown_of (HO.out.pl _ (HEZ.out.kept (below_regrown _ _ _)))))))
            refine wpQuiet_nil ?_
            intro w11 hw'
            have hd : Below wz.heap.size wz w11 := below_of_ex hw'
            clear hw' eb0 eb1 eb2 b0 b1 b2 ep0 ep1 ep2 ep3 p0 p1 p2 p3 HEZ
            replace V19 := Lib.hid (V19.out.kept hd)
            replace hb := hb.trans (Below.mono hd hb.size)
            replace V3 := Lib.hid (V3.out.kept hd)
            replace V4 := Lib.hid (V4.out.kept hd)
            replace SX := Lib.hid (SX.out.kept hd)
            replace AX := Lib.hid (AX.out.kept hd)
            replace hk := hk.trans (Below.mono hd hk.size)
            replace hr := hr.trans (Below.mono hd hr.size)
            clear hd
            have t0 := V3.out.cell (i := 0) (v := .string x.letters) rfl
            have t1 := V3.out.cell (i := 1) (v := .slice q.values.a x.values.length q.values.c) rfl
            have t2 := V3.out.cell (i := 2) (v := .slice q.counts.a x.counts.length q.counts.c) rfl
            have t3 := V3.out.cell (i := 3) (v := .int .i64 x.blanks) rfl
            have y0 := V19.out.cell (i := 0) (v := .int .i64 X.size) rfl
            have y1 := V19.out.cell (i := 1) (v := .string X.premium) rfl
            have y2 := V19.out.cell (i := 2) (v := .string X.cells) rfl
            go_wp2_with fail
            refine (HO.out.fv _ AX.out (HE.out.kept hb) (HLL.out.kept hb)).mono ?_
            rintro e w12 ⟨rfl, hd⟩
            clear t0 t1 t2 t3 y0 y1 y2 V19
            replace hb := hb.trans (Below.mono hd hb.size)
            replace V3 := Lib.hid (V3.out.kept hd)
            replace V4 := Lib.hid (V4.out.kept hd)
            replace SX := Lib.hid (SX.out.kept hd)
            replace AX := Lib.hid (AX.out.kept hd)
            replace hk := hk.trans (Below.mono hd hk.size)
            replace hr := hr.trans (Below.mono hd hr.size)
            clear hd
            have t0 := V3.out.cell (i := 0) (v := .string x.letters) rfl
            have t1 := V3.out.cell (i := 1) (v := .slice q.values.a x.values.length q.values.c) rfl
            have t2 := V3.out.cell (i := 2) (v := .slice q.counts.a x.counts.length q.counts.c) rfl
            have t3 := V3.out.cell (i := 3) (v := .int .i64 x.blanks) rfl
            go_wp2_with fail
            refine (HO.out.lv _ AX.out).mono ?_
            rintro e w13 ⟨rfl, hd⟩
            clear t0 t1 t2 t3
            replace hk := hk.trans (hd.mono hk.size)
            clear hd hb hr V3 V4 SX AX
            go_wp2
            go_roundw
            case rel => exact ⟨k + 1, by omega, by go_num, hk⟩
            case measure => simp [intOf]; omega
          · have hx : Below wD.heap.size wD (wD.alloc (.cells #[.int .i64 0, .string ⟨#[]⟩, .string ⟨#[]⟩] 25)) := (Below.refl _ _).alloc (Nat.le_refl _) _
            have V19 := Lib.hid (VarAt.new wD 25 [.int .i64 0, .string ⟨#[]⟩, .string ⟨#[]⟩])
            have hz9 := hr.size
            have hl4 := V4.out.lt
            replace hb := hb.trans (Below.mono hx hb.size)
            replace V3 := Lib.hid (V3.out.kept hx)
            replace V4 := Lib.hid (V4.out.kept hx)
            replace SX := Lib.hid (SX.out.kept hx)
            replace AX := Lib.hid (AX.out.kept hx)
            replace hk := hk.trans (Below.mono hx hk.size)
            replace hr := hr.trans (Below.mono hx hr.size)
            clear hx hS
            go_simp
            refine hK.out _ _ ⟨V4.out.range, HPR.out _ hr⟩ (fun hHeld => ?_)
            clear hK K hHeld
            generalize wD.alloc (.cells #[.int .i64 0, .string ⟨#[]⟩, .string ⟨#[]⟩] 25) = w10 at *
            generalize hB9 : wD.heap.size = B19 at *
            have hz7 : w7.heap.size ≤ B19 := by have := Below.size hk7; omega
            refine wpAnyH_ready (rs := [5]) (by kernel_rfl) (by simp) ?_
            refine AllReadyH.cons (o := _) rfl (fun K hK => ?_) AllReadyH.nil
            go_simp
            refine (HO.out.mp _ (HE.out.kept hb)).mono ?_
            rintro e w9 ⟨rfl, hd⟩
            replace V19 := Lib.hid (V19.out.kept hd)
            replace hb := hb.trans (Below.mono hd hb.size)
            replace V3 := Lib.hid (V3.out.kept hd)
            replace V4 := Lib.hid (V4.out.kept hd)
            replace SX := Lib.hid (SX.out.kept hd)
            replace AX := Lib.hid (AX.out.kept hd)
            replace hk := hk.trans (Below.mono hd hk.size)
            replace hr := hr.trans (Below.mono hd hr.size)
            clear hd
            go_wp2_with fail
            refine hK.out _ _ ⟨V4.out.range, HPR.out _ hr⟩ (fun hHeld => ?_)
            clear hK K hHeld
            have hS : w9.rangeAt (B3 + 1) 0 [.int .i64 b.size, .string b.premium, .string b.cells] ∧ w9.rangeAt g (k * 4) (Ply.enc p) := ⟨V4.out.range, HPR.out _ hr⟩
            refine slotA 6 104 (.tuple #[.agg #[.int .i64 X.size, .string X.premium, .string X.cells], .int .i64 0]) ?_
            simp only [S3]
            refine slotA 7 111 (.agg #[.int .i64 X.size, .string X.premium, .string X.cells]) ?_
            simp only [S3]
            refine slotA 8 112 (.int .i64 0) ?_
            simp only [S3]
            clear hS
            refine wpAnyH_ready (rs := [10]) (by kernel_rfl) (by simp) ?_
            refine AllReadyH.cons (o := _) rfl (fun K hK => ?_) AllReadyH.nil
            obtain ⟨o2, GG⟩ := V19.out.put [.int .i64 X.size, .string X.premium, .string X.cells] rfl
            have tR := V19.out.there (n := 3) rfl
            refine mk_store rfl rfl 25 (.tmp 19) (.tmp 111) rfl B19 0 #[.int .i64 X.size, .string X.premium, .string X.cells] rfl rfl tR (by kernel_rfl) (by simp [Value.oneCell']) ?_
            have hgr := HPR.out _ hr
            have hgz := hr.size
            replace V3 := Lib.hid (V3.out.grown GG (by simp; omega))
            replace V4 := Lib.hid (V4.out.grown GG (by simp; omega))
            replace hk := hk.grown GG hk.size (fun q h => by cases h; omega)
            replace hb := hb.grown GG hb.size (fun q h => by cases h; omega)
            replace hr := hr.grown GG hr.size (fun q h => by cases h; omega)
            replace V19 := Lib.hid o2
            replace SX := Lib.hid (SXR.out _ hr)
            replace AX := Lib.hid (AXR.out _ hr)
            refine hK.out _ _ ⟨V4.out.range, HPR.out _ hr⟩ (fun hHeld9 => ?_)
            clear hK K tR o2 GG hHeld9 hgr hgz
            change wpAnyH _ _ _ _ _ _ _ _ (World.setCells _ B19 0 [.int .i64 X.size, .string X.premium, .string X.cells])
            generalize World.setCells _ B19 0 [.int .i64 X.size, .string X.premium, .string X.cells] = wz at *
            have hS : wz.rangeAt (B3 + 1) 0 [.int .i64 b.size, .string b.premium, .string b.cells] ∧ wz.rangeAt g (k * 4) (Ply.enc p) := ⟨V4.out.range, HPR.out _ hr⟩
            refine slotA 11 20 (.int .i64 0) ?_
            simp only [S3]
            clear hS
            refine wpAnyH_done (by kernel_rfl) ?_ _
            have HEZ := Lib.hid (HE.out.kept hb)
            have b0 := V4.out.cell (i := 0) (v := .int .i64 b.size) rfl
            have b1 := V4.out.cell (i := 1) (v := .string b.premium) rfl
            have b2 := V4.out.cell (i := 2) (v := .string b.cells) rfl
            have p0 := HPR.out wz hr 0 (.int .i64 p.row) rfl
            have p1 := HPR.out wz hr 1 (.int .i64 p.col) rfl
            have p2 := HPR.out wz hr 2 (.bool p.down) rfl
            have p3 := HPR.out wz hr 3 (.string p.word) rfl
            simp only [Nat.add_zero] at p0
            go_upto_region 15 with fail
            have eb0 := cell_regrown b0
            have eb1 := cell_regrown b1
            have eb2 := cell_regrown b2
            have ep0 := cell_regrown p0
            have ep1 := cell_regrown p1
            have ep2 := cell_regrown p2
            have ep3 := cell_regrown p3
            refine wp_region_quiet_below (by kernel_rfl) (by kernel_rfl) ?_
            repeat (go_big_quiet_step ((first
              | (go_at_call 40; exact Calls.regrown_of (HO.out.pl _ (HEZ.out.kept (below_regrown _ _ _)))))))
            refine wpQuiet_nil ?_
            intro w11 hw'
            have hd : Below wz.heap.size wz w11 := below_of_ex hw'
            clear hw' eb0 eb1 eb2 b0 b1 b2 ep0 ep1 ep2 ep3 p0 p1 p2 p3 HEZ
            replace V19 := Lib.hid (V19.out.kept hd)
            replace hb := hb.trans (Below.mono hd hb.size)
            replace V3 := Lib.hid (V3.out.kept hd)
            replace V4 := Lib.hid (V4.out.kept hd)
            replace SX := Lib.hid (SX.out.kept hd)
            replace AX := Lib.hid (AX.out.kept hd)
            replace hk := hk.trans (Below.mono hd hk.size)
            replace hr := hr.trans (Below.mono hd hr.size)
            clear hd
            have t0 := V3.out.cell (i := 0) (v := .string x.letters) rfl
            have t1 := V3.out.cell (i := 1) (v := .slice q.values.a x.values.length q.values.c) rfl
            have t2 := V3.out.cell (i := 2) (v := .slice q.counts.a x.counts.length q.counts.c) rfl
            have t3 := V3.out.cell (i := 3) (v := .int .i64 x.blanks) rfl
            have y0 := V19.out.cell (i := 0) (v := .int .i64 X.size) rfl
            have y1 := V19.out.cell (i := 1) (v := .string X.premium) rfl
            have y2 := V19.out.cell (i := 2) (v := .string X.cells) rfl
            go_wp2_with fail
            refine (HO.out.fv _ AX.out (HE.out.kept hb) (HLL.out.kept hb)).mono ?_
            rintro e w12 ⟨rfl, hd⟩
            clear t0 t1 t2 t3 y0 y1 y2 V19
            replace hb := hb.trans (Below.mono hd hb.size)
            replace V3 := Lib.hid (V3.out.kept hd)
            replace V4 := Lib.hid (V4.out.kept hd)
            replace SX := Lib.hid (SX.out.kept hd)
            replace AX := Lib.hid (AX.out.kept hd)
            replace hk := hk.trans (Below.mono hd hk.size)
            replace hr := hr.trans (Below.mono hd hr.size)
            clear hd
            have t0 := V3.out.cell (i := 0) (v := .string x.letters) rfl
            have t1 := V3.out.cell (i := 1) (v := .slice q.values.a x.values.length q.values.c) rfl
            have t2 := V3.out.cell (i := 2) (v := .slice q.counts.a x.counts.length q.counts.c) rfl
            have t3 := V3.out.cell (i := 3) (v := .int .i64 x.blanks) rfl
            go_wp2_with fail
            refine (HO.out.lv _ AX.out).mono ?_
            rintro e w13 ⟨rfl, hd⟩
            clear t0 t1 t2 t3
            replace hk := hk.trans (hd.mono hk.size)
            clear hd hb hr V3 V4 SX AX
            go_wp2
            go_roundw
            case rel => exact ⟨k + 1, by omega, by go_num, hk⟩
            case measure => simp [intOf]; omega
        · have hkI : ¬ (k : Int) < (ps.length : Int) := by omega
          have hb9 := hb.trans (hk.mono hb.size)
          subst hcd
          clear hk hb HONE
          go_wp2
          go_ret
          exact ⟨rfl, hb9⟩
      · have hb9 := hb.trans (hk.mono hb.size)
        clear hk hb HONE
        go_wp2
        go_ret
        exact ⟨rfl, hb9⟩
end Go.Proofs.YtjdcdhhbgijaoaaGreatDoor
