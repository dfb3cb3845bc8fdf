/- Contract: the reference's draw for PairRound. Nothing is said of what is drawn but that it can be read. -/
import Derived.Test.YtpodkgfapbcmlaaDrG
import Derived.Deep.DeepCutAuto
namespace Go.Proofs.Ytpodkgfapbcmlaa
open Go.ChangeShapes Go.WideShapes Go.ChangeAt Go.RowKit Go.Sort

theorem pairs_le (ps : List Pai) : ps.length ≤ (flatNames ps).length := by
  induction ps with
  | nil => simp
  | cons p ps ih =>
    have h1 : 1 ≤ (pairNames p).length := by unfold pairNames; split <;> simp
    have e : flatNames (p :: ps) = pairNames p ++ flatNames ps := by simp [flatNames]
    rw [e, List.length_append, List.length_cons]
    omega
theorem round_le {ms : List Mem} {rs : List Res} (h : (pairRound ms rs).2 = 0) : (pairRound ms rs).1.length ≤ ms.length := by
  have h1 := (round_law h).2
  have h2 := pairs_le (pairRound ms rs).1
  omega
theorem own_other {x y : Option Nat} (h : x = none ∨ x ≠ y) : y = none ∨ y ≠ x := by
  rcases h with rfl | h
  · cases y with
    | none => exact .inl rfl
    | some g => exact .inr (fun e => by cases e)
  · exact .inr h.symm
/-- a variable in a block of its own, made anew -/
def NewVar (w : World) (T : TypeId) (cs : List Value) (v : Value) (w' : World) : Prop := ∃ g, v = .pointer (some ⟨g, 0, none⟩) ∧ w.heap.size ≤ g ∧ VarAt w' g T cs ∧ Below w.heap.size w w'
set_option maxRecDepth 100000 in
set_option maxHeartbeats 8000000 in
theorem DrawPairRound_any (ca : Option Addr) (ccap : Nat) (bs : List Int) (w : World) (hc : CodeAt w w.heap.size ca bs) :
    Calls Try.prog 48 #[.slice ca bs.length ccap] w (AllDrawn w) := by
  obtain ⟨j0, hj0, hj1, hj2, hj3⟩ := info_parts infoResult
  have hb : Below w.heap.size w (w.alloc (.cells #[.slice none 0 0] 30)) := (Below.refl _ _).alloc (Nat.le_refl _) _
  have V0 := Lib.hid (VarAt.new w 30 [.slice none 0 0])
  have hc1 : CodeAt (w.alloc (.cells #[.slice none 0 0] 30)) (w.alloc (.cells #[.slice none 0 0] 30)).heap.size ca bs := by
    obtain ⟨c1, c2, c3, c4⟩ := hc
    exact ⟨c1.kept hb, c2, c3, fun h0 cb co e => by have := c4 h0 cb co e; simp; omega⟩
  have HC := Lib.hid hc1
  have HC0 := Lib.hid hc
  clear hc hc1
  go_enter Try.func48, Try.ntmps48
  go_wp2_with fail
  refine (l00From_any ca ccap bs _ HC.out).mono ?_
  rintro e w2 ⟨rfl, h2, s2, hz2⟩
  simp only [World.size_alloc] at s2 hz2 ⊢
  have HS := Lib.hid s2
  replace V0 := Lib.hid (V0.out.kept h2)
  replace hb := hb.trans (h2.mono hb.size)
  clear h2 s2 HC
  go_wp2_with fail
  refine (one_any 2 _ _ _ w2 HS.out (by omega)).mono ?_
  rintro e w3 ⟨y, rfl, s4, g4⟩
  replace HS := Lib.hid s4
  replace hb := hb.trans (below_row g4 (Nat.le_succ _) (by omega))
  replace V0 := Lib.hid (V0.out.grown g4 (by simp))
  have hz3 : w.heap.size + 1 + 1 ≤ w3.heap.size := by have := g4.size; omega
  clear s4 g4 hz2
  cases y with
  | true =>
    have HC3 : Hid (CodeAt w3 w3.heap.size ca bs) := by
      obtain ⟨c1, c2, c3, c4⟩ := HC0.out
      exact Lib.hid ⟨c1.kept hb, c2, c3, fun h0 cb co e => by have := c4 h0 cb co e; omega⟩
    clear HC0 HS
    go_wp2_with fail
    refine (l26All_any ca ccap bs w3 HC3.out).mono ?_
    rintro e w4 ⟨a, cap, ms, ra, rcap, rs, rfl, h1, h2, h3, h4, h5, h6, h7, h8, h9, hd⟩
    replace V0 := Lib.hid (V0.out.kept hd)
    replace hb := hb.trans (hd.mono hb.size)
    clear HC3 hd
    have d0 := V0.out.cell (i := 0) rfl
    have f0 := V0.out.free 0
    obtain ⟨o7, g7⟩ := V0.out.set 0 (.slice a ms.length cap)
    have e0 := o7.cell (i := 0) (v := .slice a ms.length cap) rfl
    have H1 := Lib.hid (h1.grown g7 (fun x hx e => by have := h8 x hx; simp only [Option.some.injEq] at e; omega))
    have H2 := Lib.hid (h2.grown g7 (fun x hx e => by have := h9 x hx; simp only [Option.some.injEq] at e; omega))
    have hb7 := hb.trans (below_row g7 (Nat.le_refl _) hb.size)
    have H3 := Lib.hid h3
    have H6 := Lib.hid h6
    have H7 := Lib.hid h7
    have H8 := Lib.hid h8
    have H9 := Lib.hid h9
    clear h1 h2 h3 h6 h7 h8 h9 o7 g7 hb
    go_wp2
    refine bodyPost_ret (v := .tuple #[.agg #[.slice a ms.length cap], .slice ra rs.length rcap]) (by simp [results, Try.results48, go_sem, e0]) rfl ?_
    exact ⟨a, cap, ms, ra, rcap, rs, rfl, H1.out, H2.out, H3.out, h4, h5, H6.out, H7.out, (fun x hx => by have := H8.out x hx; omega), (fun x hx => by have := H9.out x hx; omega), hb7⟩
  | false =>
    clear HC0
    go_wp2_with fail
    refine (l26Draw_any (w.heap.size + 1 + 1) (w.heap.size + 1) _ w3 HS.out (by omega) (by omega)).mono ?_
    rintro e w4 ⟨a, cap, ms, rfl, ho, hl, hf, s3, g3⟩
    have hz4 : w.heap.size + 1 + 1 ≤ w4.heap.size := by have := g3.size; omega
    have HO := Lib.hid (own_mono ho hz3)
    have HF := Lib.hid hf
    replace HS := Lib.hid s3
    replace V0 := Lib.hid (V0.out.grown g3 (by simp))
    replace hb := hb.trans (below_row g3 (Nat.le_succ _) (by omega))
    clear ho hf s3 g3
    have HN := Lib.hid (own_nil2 HO.out rfl)
    have HB := Lib.hid (own_block HO.out)
    have HX : Hid (∀ g, (Value.slice a ms.length cap).ownBlock = some g → g < w4.heap.size) := Lib.hid (fun g e => by
      obtain ⟨x, rfl⟩ : ∃ x, a = some x := by cases a with | none => simp [Value.ownBlock] at e | some x => exact ⟨x, rfl⟩
      have e2 := HB.out x rfl
      have e3 : x.block = g := by simpa [Value.ownBlock] using e
      omega)
    have hx : Below w4.heap.size w4 ((w4.alloc (.cells #[.slice a ms.length cap] 30)).alloc (.cells #[] 39)) := ((Below.refl _ _).alloc (Nat.le_refl _) _).alloc (by simp) _
    have V1 := Lib.hid ((VarAt.new w4 30 [.slice a ms.length cap]).kept ((Below.refl _ _).alloc (Nat.le_refl _) (.cells #[] 39)))
    have HR := Lib.hid (World.ownsRow_made (base := w4.heap.size + 1) (e := 39) (size := 4) (w4.alloc (.cells #[.slice a ms.length cap] 30)) #[] 0 (by simp) (by unfold maxLen; omega) rfl)
    replace HS := Lib.hid (HS.out.kept hx)
    replace V0 := Lib.hid (V0.out.kept hx)
    replace hb := hb.trans (hx.mono hb.size)
    replace HO := Lib.hid (own_below HO.out hx)
    simp only [World.size_alloc] at HR
    clear hx HB
    generalize hB : w4.heap.size = B1 at *
    go_wp2_with fail
    clear hB
    refine (pick_any 6 _ _ _ _ HS.out (by omega)).mono ?_
    rintro e w5 ⟨x, ⟨x0, x1, _, _⟩, rfl, s4, g4⟩
    have x6 : x < 6 := x1 (by omega)
    replace hb := hb.trans (below_row g4 (Nat.le_succ _) (by have := V0.out.lt; have := V1.out.lt; omega))
    replace HS := Lib.hid s4
    replace V0 := Lib.hid (V0.out.grown g4 (by simp))
    replace V1 := Lib.hid (V1.out.grown g4 (by simp; omega))
    replace HO := Lib.hid (HO.out.kept g4 (.inr (fun e => by have := (HO.out.lt _ e).1; omega)))
    replace HR := Lib.hid (HR.out.kept g4 (.inr (fun e => by have := (HR.out.lt _ e).1; omega)))
    clear s4 g4 x1
    have HRF : Hid (ResFit []) := Lib.hid (fun r h => by cases h)
    go_wp2_with fail
    go_loopw [7, 6] (fun iv ov wr => ∃ (z : Int) (ra : Option Addr) (rcap : Nat) (rs : List Res), 0 ≤ z ∧ iv = .int .i64 z ∧ rs.length + 6 * z ≤ 36 ∧ ov = .slice ra rs.length rcap ∧ Hid (VarAt wr w.heap.size 30 [.slice none 0 0]) ∧ Hid (VarAt wr B1 30 [.slice a ms.length cap]) ∧
      Hid (wr.ownsRow (w.heap.size + 1 + 1) 56 2 (.slice a ms.length cap) ms.length (ms.flatMap Mem.enc)) ∧ Hid (wr.ownsRow (B1 + 1) 39 4 (.slice ra rs.length rcap) rs.length (rs.flatMap Res.enc)) ∧ Hid (ResFit rs) ∧ Hid (SrcAt wr (w.heap.size + 1 + 1) (w.heap.size + 1) (100 + 4 * rs.length)) ∧ Below w.heap.size w wr) (fun iv _ _ => (intOf iv).toNat)
    case atStart => exact ⟨x, _, _, [], x0, rfl, by simp; omega, rfl, V0, V1, HO, HR, HRF, Lib.hid (HS.out.mono (Nat.le_refl _) (by simp)), hb⟩
    case round =>
      clear V0 V1 HO HR HRF HS hb x0 x6
      obtain ⟨z, ra, rcap, rs, hz0, rfl, hzn, rfl, V0, V1, HO, HR, HRF, HS, hb⟩ := hrel
      have hrl : rs.length ≤ 36 := by omega
      have hsz : B1 < wr.heap.size := V1.out.lt
      by_cases hlt : 0 < z
      · have c1 := V1.out.cell (i := 0) rfl
        go_wp2_with fail
        refine (specPairRound_anyN ms rs a ra cap rcap wr (own_slice Mem.enc_len HO.out rfl) HN.out (own_slice Res.enc_len HR.out rfl) (by omega) (by omega) HF.out HRF.out).mono ?_
        rintro e w6 ⟨pa, pcap, rfl, ho, hd⟩
        have HP := Lib.hid ho
        have HPX : Hid (∀ g, (Value.slice ra rs.length rcap).ownBlock = some g → g < wr.heap.size) := Lib.hid (fun g e => (HR.out.lt g e).2)
        have hs6 := hd.size
        replace V0 := Lib.hid (V0.out.kept hd)
        replace V1 := Lib.hid (V1.out.kept hd)
        replace HO := Lib.hid (own_below HO.out hd)
        replace HR := Lib.hid (own_below HR.out hd)
        replace HS := Lib.hid (HS.out.kept hd)
        replace hb := hb.trans (hd.mono hb.size)
        clear ho hd c1
        by_cases hcode : (pairRound ms rs).2 = 0
        · have hpl := round_le hcode
          have HPF := Lib.hid (round_fit hcode HF.out)
          have hcn : ((pairRound ms rs).2 != 0) = false := by simpa using hcode
          rw [hcode]
          generalize (pairRound ms rs).1 = ps at *
          clear hcode hcn
          obtain ⟨n0, hn0⟩ : ∃ n0, n0 = rs.length := ⟨_, rfl⟩
          have HN0 := Lib.hid hn0
          have hn36 : n0 ≤ 36 := by omega
          have hnz : (n0 : Int) + 6 * z ≤ 36 := by omega
          clear hn0
          generalize wr.heap.size = B6 at *
          have HNE : Hid ((Value.slice ra rs.length rcap).ownBlock = none ∨ (Value.slice ra rs.length rcap).ownBlock ≠ (Value.slice pa ps.length pcap).ownBlock) := by
            refine Lib.hid ?_
            cases hv : (Value.slice ra rs.length rcap).ownBlock with
            | none => exact .inl rfl
            | some g => exact .inr (fun e => by have := HPX.out g hv; have := (HP.out.lt g e.symm).1; omega)
          clear HPX
          go_wp2_with fail
          go_loopw [10, 6] (fun iv ov wx => ∃ (j : Nat) (ra : Option Addr) (rcap : Nat) (rs : List Res), j ≤ ps.length ∧ iv = .int .i64 j ∧ Hid (rs.length = n0 + j) ∧ ov = .slice ra rs.length rcap ∧ Hid (VarAt wx w.heap.size 30 [.slice none 0 0]) ∧ Hid (VarAt wx B1 30 [.slice a ms.length cap]) ∧
            Hid (wx.ownsRow (w.heap.size + 1 + 1) 56 2 (.slice a ms.length cap) ms.length (ms.flatMap Mem.enc)) ∧ Hid (wx.ownsRow (B1 + 1) 39 4 (.slice ra rs.length rcap) rs.length (rs.flatMap Res.enc)) ∧ Hid (wx.ownsRow B6 82 2 (.slice pa ps.length pcap) ps.length (ps.flatMap Pai.enc)) ∧
            Hid ((Value.slice ra rs.length rcap).ownBlock = none ∨ (Value.slice ra rs.length rcap).ownBlock ≠ (Value.slice pa ps.length pcap).ownBlock) ∧ Hid (ResFit rs) ∧ Hid (SrcAt wx (w.heap.size + 1 + 1) (w.heap.size + 1) (100 + 4 * rs.length)) ∧ Below w.heap.size w wx) (fun iv _ _ => ps.length - (intOf iv).toNat)
          case atStart => exact ⟨0, _, _, rs, Nat.zero_le _, rfl, Lib.hid (by rw [HN0.out]; rfl), rfl, V0, V1, HO, HR, HP, HNE, HRF, HS, hb⟩
          case round =>
            clear V0 V1 HO HR HP HNE HRF HS hb HN0
            obtain ⟨j, ra, rcap, rs, hj, rfl, HL, rfl, V0, V1, HO, HR, HP, HNE, HRF, HS, hb⟩ := hrel
            have hrl2 : rs.length ≤ 42 := by have := HL.out; omega
            by_cases hjt : j < ps.length
            · obtain ⟨xb, xo, rfl, hc⟩ := (own_slice Pai.enc_len HP.out rfl).open hjt
              have p0 := hc.at0 hjt rfl
              have p1 := hc j hjt 1 (.string ps[j].b) rfl
              have HFP := Lib.hid (HPF.out _ (List.getElem_mem hjt))
              clear hc
              go_upto_region 14 with fail
              go_cut [11] (fun s11 wy => NewVar wr 39 [.string ps[j].a, .string ps[j].b, .int .i64 0, .int .i64 0] s11 wy)
              case first =>
                have k_0 : wr.drew.cell? ⟨xb, xo + j * 2, none⟩ = some (.string ps[j].a) := p0
                have k_1 : wr.drew.cell? ⟨xb, xo + j * 2 + 1, none⟩ = some (.string ps[j].b) := p1
                have l_0 := block_lt p0
                go_region_held3 (fun w' => w'.cell? ⟨xb, xo + j * 2, none⟩ = some (.string ps[j].a) ∧ w'.cell? ⟨xb, xo + j * 2 + 1, none⟩ = some (.string ps[j].b))
                  (first | exact ⟨k_0, k_1⟩ | exact ⟨(cell_alloc k_0 _), (cell_alloc k_1 _)⟩ | exact ⟨(cell_far k_0 (by omega) _), (cell_far k_1 (by omega) _)⟩ | exact ⟨(cell_newfar k_0 _ _), (cell_newfar k_1 _ _)⟩)
                  (fail)
                all_goals (go_wp2_with fail; go_meet; exact ⟨_, rfl, Nat.le_refl _, VarAt.new wr 39 [.string ps[j].a, .string ps[j].b, .int .i64 0, .int .i64 0], ((Below.refl _ _).alloc (Nat.le_refl _) _).drew⟩)
              case rest =>
                generalize wc = wA at *
                obtain ⟨g, rfl, hg, hvr, hd⟩ := hcut
                have hgb : B1 < g ∧ w.heap.size + 1 < g := by have := V1.out.lt; omega
                obtain ⟨hgb, hgs⟩ := hgb
                have VR := Lib.hid hvr
                have HRG := Lib.hid (fun q e => Nat.lt_of_lt_of_le (HR.out.lt q e).2 hg)
                have HPG := Lib.hid (fun q e => Nat.lt_of_lt_of_le (HP.out.lt q e).2 hg)
                replace V0 := Lib.hid (V0.out.kept hd)
                replace V1 := Lib.hid (V1.out.kept hd)
                replace HO := Lib.hid (own_below HO.out hd)
                replace HR := Lib.hid (own_below HR.out hd)
                replace HP := Lib.hid (own_below HP.out hd)
                replace HS := Lib.hid (HS.out.kept hd)
                replace hb := hb.trans (hd.mono hb.size)
                clear hd hvr p0 p1
                have d1 := VR.out.cell (i := 1) rfl
                cases hbe : ps[j].b.toList.isEmpty with
                | true =>
                  have d0 := VR.out.cell (i := 0) rfl
                  have d2 := VR.out.cell (i := 2) rfl
                  have d3 := VR.out.cell (i := 3) rfl
                  clear VR
                  have hx : Below wA.heap.size wA (wA.alloc (.cells #[.string (⟨ps[j].a, ps[j].b, 0, 0⟩ : Res).a, .string (⟨ps[j].a, ps[j].b, 0, 0⟩ : Res).b, .int .i64 (⟨ps[j].a, ps[j].b, 0, 0⟩ : Res).sa, .int .i64 (⟨ps[j].a, ps[j].b, 0, 0⟩ : Res).sb] 39)) := (Below.refl _ _).alloc (Nat.le_refl _) _
                  have KN := Lib.hid (new_news wA (Res.enc (⟨ps[j].a, ps[j].b, 0, 0⟩ : Res)) 39)
                  have hza : B1 + 1 ≤ wA.heap.size := V1.out.lt
                  replace HS := Lib.hid (HS.out.kept hx)
                  replace hb := hb.trans (hx.mono hb.size)
                  replace V0 := Lib.hid (V0.out.kept hx)
                  replace V1 := Lib.hid (V1.out.kept hx)
                  replace HO := Lib.hid (own_below HO.out hx)
                  replace HR := Lib.hid (own_below HR.out hx)
                  have HPZ : Hid (∀ q, (Value.slice (some ⟨xb, xo, none⟩) ps.length pcap).ownBlock = some q → q < wA.heap.size) := Lib.hid (fun q e => (HP.out.lt q e).2)
                  replace HP := Lib.hid (own_below HP.out hx)
                  have HQ : Hid (Res.fit (⟨ps[j].a, ps[j].b, 0, 0⟩ : Res)) := HFP
                  clear hx
                  go_wp2_with (at_builtin; go_must (refine wpList_append_own_at _ rfl (.tmp 65) (.tmp 67) 47 rfl (B1 + 1) 39 j0 _ 4 48 Try.underlying47 hj0 hj1 hj2 hj3 rfl (by decide) _ rs.length (rs.flatMap Res.enc) rfl HR.out ⟨wA.heap.size, 0, none⟩ 1 1 (Res.enc (⟨ps[j].a, ps[j].b, 0, 0⟩ : Res)) rfl rfl KN.out (res_one (⟨ps[j].a, ps[j].b, 0, 0⟩ : Res)) ?c1 ?c2 ?c3 ?_))
                  case c1 => unfold maxLen; omega
                  case c2 => omega
                  case c3 => (try simp); omega
                  intro v' w9 hown9 hgr9 _ hat9
                  obtain ⟨a9, cap9, rfl⟩ := own_shape hown9
                  have HL9 : Hid ((rs ++ [(⟨ps[j].a, ps[j].b, 0, 0⟩ : Res)]).length = rs.length + 1) := Lib.hid (by simp)
                  have HF9 := Lib.hid (resFit_snoc HRF.out (⟨ps[j].a, ps[j].b, 0, 0⟩ : Res) HQ.out)
                  have HNE9 : Hid ((Value.slice a9 (rs.length + 1) cap9).ownBlock = none ∨ (Value.slice a9 (rs.length + 1) cap9).ownBlock ≠ (Value.slice (some ⟨xb, xo, none⟩) ps.length pcap).ownBlock) := Lib.hid (by
                    rcases hat9 with e | e
                    · have h := HNE.out; rw [← e] at h; exact h
                    · refine .inr (fun e2 => ?_)
                      have h3 := HPZ.out _ (e2.symm.trans e)
                      have h4 := World.size_alloc wA (.cells #[.string (⟨ps[j].a, ps[j].b, 0, 0⟩ : Res).a, .string (⟨ps[j].a, ps[j].b, 0, 0⟩ : Res).b, .int .i64 (⟨ps[j].a, ps[j].b, 0, 0⟩ : Res).sa, .int .i64 (⟨ps[j].a, ps[j].b, 0, 0⟩ : Res).sb] 39)
                      omega)
                  replace HS := Lib.hid (HS.out.grown hgr9 (fun q e => by have := (HR.out.lt q e).1; omega))
                  replace V0 := Lib.hid (V0.out.grown hgr9 (own_ne HR.out (by omega)))
                  replace V1 := Lib.hid (V1.out.grown hgr9 (own_ne HR.out (by omega)))
                  replace hb := hb.grown hgr9 hb.size (fun q e => by have := (HR.out.lt q e).1; omega)
                  replace HO := Lib.hid (HO.out.kept hgr9 (own_apart HX.out HR.out))
                  replace HP := Lib.hid (HP.out.kept hgr9 (own_other HNE.out))
                  replace HR := Lib.hid (own_as hown9 (flat_snoc Res.enc rs _))
                  clear hown9 hgr9 hat9 KN HRF HQ HPZ HNE
                  go_wp2
                  go_roundw
                  case rel =>
                    refine ⟨j + 1, a9, cap9, rs ++ [(⟨ps[j].a, ps[j].b, 0, 0⟩ : Res)], by omega, by go_num, Lib.hid (by rw [HL9.out, HL.out]; omega), by rw [HL9.out], V0, V1, HO, ?_, HP, ?_, HF9, Lib.hid (HS.out.mono (Nat.le_refl _) (by rw [HL9.out]; omega)), hb⟩
                    · rw [HL9.out]; exact HR
                    · rw [HL9.out]; exact HNE9
                  case measure => simp [intOf]; omega
                | false =>
                  go_wp2_with fail
                  refine (pick_any 60 _ _ _ wA HS.out (by omega)).mono ?_
                  rintro e w7 ⟨x, ⟨x0, x1, _, _⟩, rfl, s4, g4⟩
                  have x60 : x < 60 := x1 (by omega)
                  replace HS := Lib.hid s4
                  replace hb := hb.trans (below_row g4 (Nat.le_succ _) (by have := V0.out.lt; have := V1.out.lt; omega))
                  replace V0 := Lib.hid (V0.out.grown g4 (by simp))
                  replace V1 := Lib.hid (V1.out.grown g4 (by simp; omega))
                  replace VR := Lib.hid (VR.out.grown g4 (by simp; omega))
                  replace HO := Lib.hid (HO.out.kept g4 (.inr (fun e => by have := (HO.out.lt _ e).1; omega)))
                  replace HR := Lib.hid (HR.out.kept g4 (.inr (fun e => by have := (HR.out.lt _ e).1; omega)))
                  replace HP := Lib.hid (HP.out.kept g4 (.inr (fun e => by have := (HP.out.lt _ e).1; omega)))
                  clear s4 g4 x1 d1
                  have fv := VR.out.free 2
                  have cv := VR.out.cell (i := 2) rfl
                  obtain ⟨o7, g7⟩ := VR.out.set 2 (.int .i64 (300 + x))
                  replace HS := Lib.hid (HS.out.grown g7 (fun q e => by simp only [Option.some.injEq] at e; omega))
                  replace hb := hb.trans (below_row g7 (by omega) (by have := V0.out.lt; omega))
                  replace V0 := Lib.hid (V0.out.grown g7 (by simp; omega))
                  replace V1 := Lib.hid (V1.out.grown g7 (by simp; omega))
                  replace HO := Lib.hid (HO.out.kept g7 (.inr (fun e => by have := HX.out _ e; omega)))
                  replace HR := Lib.hid (HR.out.kept g7 (.inr (fun e => by have := HRG.out _ e; omega)))
                  replace HP := Lib.hid (HP.out.kept g7 (.inr (fun e => by have := HPG.out _ e; omega)))
                  replace VR := Lib.hid o7
                  clear o7 g7
                  go_wp2_with fail
                  refine (pick_any 60 _ _ _ _ HS.out (by omega)).mono ?_
                  rintro e w8 ⟨y, ⟨y0, y1, _, _⟩, rfl, s4, g4⟩
                  have y60 : y < 60 := y1 (by omega)
                  replace HS := Lib.hid s4
                  replace hb := hb.trans (below_row g4 (Nat.le_succ _) (by have := V0.out.lt; have := V1.out.lt; omega))
                  replace V0 := Lib.hid (V0.out.grown g4 (by simp))
                  replace V1 := Lib.hid (V1.out.grown g4 (by simp; omega))
                  replace VR := Lib.hid (VR.out.grown g4 (by simp; omega))
                  replace HO := Lib.hid (HO.out.kept g4 (.inr (fun e => by have := (HO.out.lt _ e).1; omega)))
                  replace HR := Lib.hid (HR.out.kept g4 (.inr (fun e => by have := (HR.out.lt _ e).1; omega)))
                  replace HP := Lib.hid (HP.out.kept g4 (.inr (fun e => by have := (HP.out.lt _ e).1; omega)))
                  clear s4 g4 y1 fv cv
                  have fv := VR.out.free 3
                  have cv := VR.out.cell (i := 3) rfl
                  obtain ⟨o7, g7⟩ := VR.out.set 3 (.int .i64 (300 + y))
                  replace HS := Lib.hid (HS.out.grown g7 (fun q e => by simp only [Option.some.injEq] at e; omega))
                  replace hb := hb.trans (below_row g7 (by omega) (by have := V0.out.lt; omega))
                  replace V0 := Lib.hid (V0.out.grown g7 (by simp; omega))
                  replace V1 := Lib.hid (V1.out.grown g7 (by simp; omega))
                  replace HO := Lib.hid (HO.out.kept g7 (.inr (fun e => by have := HX.out _ e; omega)))
                  replace HR := Lib.hid (HR.out.kept g7 (.inr (fun e => by have := HRG.out _ e; omega)))
                  replace HP := Lib.hid (HP.out.kept g7 (.inr (fun e => by have := HPG.out _ e; omega)))
                  replace VR := Lib.hid o7
                  clear o7 g7
                  go_upto_region 18 with fail
                  clear fv cv
                  have d0 := VR.out.cell (i := 0) rfl
                  have d1 := VR.out.cell (i := 1) rfl
                  have d2 := VR.out.cell (i := 2) rfl
                  have d3 := VR.out.cell (i := 3) rfl
                  clear VR
                  generalize w8.setCell ⟨g, 3, none⟩ (.int .i64 (300 + y)) = wB at *
                  have hx : Below wB.heap.size wB (wB.alloc (.cells #[.string (⟨ps[j].a, ps[j].b, 300 + x, 300 + y⟩ : Res).a, .string (⟨ps[j].a, ps[j].b, 300 + x, 300 + y⟩ : Res).b, .int .i64 (⟨ps[j].a, ps[j].b, 300 + x, 300 + y⟩ : Res).sa, .int .i64 (⟨ps[j].a, ps[j].b, 300 + x, 300 + y⟩ : Res).sb] 39)) := (Below.refl _ _).alloc (Nat.le_refl _) _
                  have KN := Lib.hid (new_news wB (Res.enc (⟨ps[j].a, ps[j].b, 300 + x, 300 + y⟩ : Res)) 39)
                  have hza : B1 + 1 ≤ wB.heap.size := V1.out.lt
                  replace HS := Lib.hid (HS.out.kept hx)
                  replace hb := hb.trans (hx.mono hb.size)
                  replace V0 := Lib.hid (V0.out.kept hx)
                  replace V1 := Lib.hid (V1.out.kept hx)
                  replace HO := Lib.hid (own_below HO.out hx)
                  replace HR := Lib.hid (own_below HR.out hx)
                  have HPZ : Hid (∀ q, (Value.slice (some ⟨xb, xo, none⟩) ps.length pcap).ownBlock = some q → q < wB.heap.size) := Lib.hid (fun q e => (HP.out.lt q e).2)
                  replace HP := Lib.hid (own_below HP.out hx)
                  have HQ : Hid (Res.fit (⟨ps[j].a, ps[j].b, 300 + x, 300 + y⟩ : Res)) := HFP
                  clear hx
                  go_wp2_with (at_builtin; go_must (refine wpList_append_own_at _ rfl (.tmp 65) (.tmp 67) 47 rfl (B1 + 1) 39 j0 _ 4 48 Try.underlying47 hj0 hj1 hj2 hj3 rfl (by decide) _ rs.length (rs.flatMap Res.enc) rfl HR.out ⟨wB.heap.size, 0, none⟩ 1 1 (Res.enc (⟨ps[j].a, ps[j].b, 300 + x, 300 + y⟩ : Res)) rfl rfl KN.out (res_one (⟨ps[j].a, ps[j].b, 300 + x, 300 + y⟩ : Res)) ?c1 ?c2 ?c3 ?_))
                  case c1 => unfold maxLen; omega
                  case c2 => omega
                  case c3 => (try simp); omega
                  intro v' w9 hown9 hgr9 _ hat9
                  obtain ⟨a9, cap9, rfl⟩ := own_shape hown9
                  have HL9 : Hid ((rs ++ [(⟨ps[j].a, ps[j].b, 300 + x, 300 + y⟩ : Res)]).length = rs.length + 1) := Lib.hid (by simp)
                  have HF9 := Lib.hid (resFit_snoc HRF.out (⟨ps[j].a, ps[j].b, 300 + x, 300 + y⟩ : Res) HQ.out)
                  have HNE9 : Hid ((Value.slice a9 (rs.length + 1) cap9).ownBlock = none ∨ (Value.slice a9 (rs.length + 1) cap9).ownBlock ≠ (Value.slice (some ⟨xb, xo, none⟩) ps.length pcap).ownBlock) := Lib.hid (by
                    rcases hat9 with e | e
                    · have h := HNE.out; rw [← e] at h; exact h
                    · refine .inr (fun e2 => ?_)
                      have h3 := HPZ.out _ (e2.symm.trans e)
                      have h4 := World.size_alloc wB (.cells #[.string (⟨ps[j].a, ps[j].b, 300 + x, 300 + y⟩ : Res).a, .string (⟨ps[j].a, ps[j].b, 300 + x, 300 + y⟩ : Res).b, .int .i64 (⟨ps[j].a, ps[j].b, 300 + x, 300 + y⟩ : Res).sa, .int .i64 (⟨ps[j].a, ps[j].b, 300 + x, 300 + y⟩ : Res).sb] 39)
                      omega)
                  replace HS := Lib.hid (HS.out.grown hgr9 (fun q e => by have := (HR.out.lt q e).1; omega))
                  replace V0 := Lib.hid (V0.out.grown hgr9 (own_ne HR.out (by omega)))
                  replace V1 := Lib.hid (V1.out.grown hgr9 (own_ne HR.out (by omega)))
                  replace hb := hb.grown hgr9 hb.size (fun q e => by have := (HR.out.lt q e).1; omega)
                  replace HO := Lib.hid (HO.out.kept hgr9 (own_apart HX.out HR.out))
                  replace HP := Lib.hid (HP.out.kept hgr9 (own_other HNE.out))
                  replace HR := Lib.hid (own_as hown9 (flat_snoc Res.enc rs _))
                  clear hown9 hgr9 hat9 KN HRF HQ HPZ HNE
                  go_wp2
                  go_roundw
                  case rel =>
                    refine ⟨j + 1, a9, cap9, rs ++ [(⟨ps[j].a, ps[j].b, 300 + x, 300 + y⟩ : Res)], by omega, by go_num, Lib.hid (by rw [HL9.out, HL.out]; omega), by rw [HL9.out], V0, V1, HO, ?_, HP, ?_, HF9, Lib.hid (HS.out.mono (Nat.le_refl _) (by rw [HL9.out]; omega)), hb⟩
                    · rw [HL9.out]; exact HR
                    · rw [HL9.out]; exact HNE9
                  case measure => simp [intOf]; omega
            · obtain rfl : j = ps.length := by omega
              clear HP HNE
              go_wp2
              go_roundw
              case rel => exact ⟨z - 1, ra, rcap, rs, by omega, by go_num, by have := HL.out; omega, rfl, V0, V1, HO, HR, HRF, HS, hb⟩
              case measure => simp [intOf]; omega
        · have hcn : ((pairRound ms rs).2 != 0) = true := by simpa using hcode
          generalize (pairRound ms rs).2 = code at *
          generalize (pairRound ms rs).1 = ps at *
          clear HP HPX
          have d1 := V1.out.cell (i := 0) rfl
          have f0 := V0.out.free 0
          have d0 := V0.out.cell (i := 0) rfl
          obtain ⟨o7, g7⟩ := V0.out.set 0 (.slice a ms.length cap)
          have e0 := o7.cell (i := 0) (v := .slice a ms.length cap) rfl
          replace HO := Lib.hid (HO.out.kept g7 (.inr (own_en HO.out (by omega))))
          replace HR := Lib.hid (HR.out.kept g7 (.inr (own_en HR.out (by omega))))
          replace hb := hb.trans (below_row g7 (Nat.le_refl _) hb.size)
          clear o7 g7
          go_wp2
          refine bodyPost_ret (v := .tuple #[.agg #[.slice a ms.length cap], .slice ra rs.length rcap]) (by simp [results, Try.results48, go_sem, e0]) rfl ?_
          exact ⟨a, cap, ms, ra, rcap, rs, rfl, own_slice Mem.enc_len HO.out rfl, own_slice Res.enc_len HR.out rfl, HN.out, by omega, by omega, HF.out, HRF.out, (fun y hy => by have := (own_block HO.out y hy).1; omega), (fun y hy => by have := (own_block HR.out y hy).1; omega), hb⟩
      · have d1 := V1.out.cell (i := 0) rfl
        have f0 := V0.out.free 0
        have d0 := V0.out.cell (i := 0) rfl
        obtain ⟨o7, g7⟩ := V0.out.set 0 (.slice a ms.length cap)
        have e0 := o7.cell (i := 0) (v := .slice a ms.length cap) rfl
        replace HO := Lib.hid (HO.out.kept g7 (.inr (own_en HO.out (by omega))))
        replace HR := Lib.hid (HR.out.kept g7 (.inr (own_en HR.out (by omega))))
        replace hb := hb.trans (below_row g7 (Nat.le_refl _) hb.size)
        clear o7 g7
        go_wp2
        refine bodyPost_ret (v := .tuple #[.agg #[.slice a ms.length cap], .slice ra rs.length rcap]) (by simp [results, Try.results48, go_sem, e0]) rfl ?_
        exact ⟨a, cap, ms, ra, rcap, rs, rfl, own_slice Mem.enc_len HO.out rfl, own_slice Res.enc_len HR.out rfl, HN.out, by omega, by omega, HF.out, HRF.out, (fun y hy => by have := (own_block HO.out y hy).1; omega), (fun y hy => by have := (own_block HR.out y hy).1; omega), hb⟩
end Go.Proofs.Ytpodkgfapbcmlaa
