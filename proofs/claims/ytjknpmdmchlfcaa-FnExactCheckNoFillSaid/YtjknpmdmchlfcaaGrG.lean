/- Contract: the reference's check of a proof that a grid has no filling. For grids of at most 5 rows and columns and lexicons of at most 200 words. -/
import Derived.Test.YtjknpmdmchlfcaaGrF
namespace Go.Proofs.Ytjknpmdmchlfcaa
open Go.ChangeShapes Go.WideShapes Go.ChangeAt Go.RowKit Go.Sort

/-- what is left of a proof, or none -/
def ChkPost (o : Option (List Int)) (w : World) (e : Ending) (w' : World) : Prop :=
  ∃ (a : Option Addr) (cap : Nat), e = .returned (.tuple #[.slice a (o.getD []).length cap, .bool o.isSome]) ∧ SliceAt w' 1 I64.enc a (o.getD []) ∧ (o.getD []).length ≤ cap ∧ cap ≤ 4611686018427387904 ∧ Below w.heap.size w w'
/-- a search: its words and its slots -/
def SrchAt (w : World) (sb : Nat) (wa sa : Option Addr) (wc sc : Nat) (ws : List ByteArray) (S : List Slt) : Prop :=
  w.cell? ⟨sb, 0, none⟩ = some (.slice wa ws.length wc) ∧ w.cell? ⟨sb, 1, none⟩ = some (.slice sa S.length sc) ∧ SliceAt w 1 Tx.enc wa ws ∧ SliceAt w 4 Slt.enc sa S
theorem SrchAt.kept {w w' : World} {sb : Nat} {wa sa : Option Addr} {wc sc : Nat} {ws : List ByteArray} {S : List Slt} (h : SrchAt w sb wa sa wc sc ws S) (hb : Below w.heap.size w w') : SrchAt w' sb wa sa wc sc ws S :=
  ⟨cell_kept h.1 hb, cell_kept h.2.1 hb, h.2.2.1.kept hb, h.2.2.2.kept hb⟩
theorem cells_slt {w : World} {b o : Nat} {S : List Slt} (h : CellsAt w 4 Slt.enc b o S) {i : Nat} (hi : i < S.length) : SAt w b (o + i * 4) S[i] :=
  ⟨h.at0 hi rfl, h i hi 1 _ rfl, h i hi 2 _ rfl, h i hi 3 _ rfl⟩
theorem cells_tail {w : World} {b o : Nat} {p : Int} {ps : List Int} (h : CellsAt w 1 I64.enc b o (p :: ps)) : SliceAt w 1 I64.enc (some ⟨b, o + 1, none⟩) ps := by
  refine .inr ⟨b, o + 1, rfl, fun i hi j v hv => ?_⟩
  have := h (i + 1) (by simp; omega) j v (by simpa using hv)
  rw [show o + 1 + i * 1 + j = o + (i + 1) * 1 + j from by omega]
  exact this
theorem cand_len {C : Nat} {L : List UInt8} {s : Slt} {ws : List ByteArray} : ∀ x ∈ candL C L s ws, x.size = s.len := by
  intro x hx
  have h := fits_len _ _ (List.mem_filter.1 hx).2
  rw [patL_len] at h
  have h2 : x.data.toList.length = x.size := by simp
  omega
theorem cand_le {C : Nat} {L : List UInt8} {s : Slt} {ws : List ByteArray} : (candL C L s ws).length ≤ ws.length := List.length_filter_le _ _
theorem chk_none {C : Nat} {S : List Slt} {ws : List ByteArray} {f : Nat} {L : List UInt8} : chk C S ws f L [] = none := by cases f <;> rfl
theorem chk_bad {C : Nat} {S : List Slt} {ws : List ByteArray} {f : Nat} {L : List UInt8} {p : Int} {ps : List Int} (h : withinB p 0 ((S.length : Int) - 1) = false) : chk C S ws (f + 1) L (p :: ps) = none := by
  have h2 : ¬ (0 ≤ p ∧ p < S.length) := by
    rintro ⟨h3, h4⟩
    unfold withinB at h
    rw [decide_eq_true h3, decide_eq_true (by omega)] at h
    cases h
  simp only [chk]
  rw [if_neg h2]
theorem chk_good {C : Nat} {S : List Slt} {ws : List ByteArray} {f : Nat} {L : List UInt8} {i : Nat} {ps : List Int} (h : i < S.length) : chk C S ws (f + 1) L ((i : Int) :: ps) = chain (fun x r => chk C S ws f (putL C L S[i] x.data.toList) r) (candL C L S[i] ws) ps := by
  simp only [chk]
  rw [if_pos ⟨by omega, by omega⟩, Int.toNat_natCast, List.getD_eq_getElem?_getD, List.getElem?_eq_getElem h]
  rfl
theorem chain_step {k : ByteArray → List Int → Option (List Int)} {xs : List ByteArray} {i : Nat} (h : i < xs.length) (r : List Int) : chain k (xs.drop i) r = match k xs[i] r with
    | none => none
    | some r' => chain k (xs.drop (i + 1)) r' := by
  rw [List.drop_eq_getElem_cons h, chain]
  cases k xs[i] r <;> rfl
theorem chain_end {k : ByteArray → List Int → Option (List Int)} {xs : List ByteArray} {i : Nat} (h : xs.length ≤ i) (r : List Int) : chain k (xs.drop i) r = some r := by
  rw [List.drop_eq_nil_of_le h, chain]
theorem chk_len {C : Nat} {S : List Slt} {ws : List ByteArray} {f : Nat} {L : List UInt8} {P r : List Int} (h : chk C S ws f L P = some r) : r.length ≤ P.length := by
  obtain ⟨n, rfl⟩ := chk_suffix _ _ _ _ _ _ _ h
  rw [List.length_drop]
  omega
set_option maxRecDepth 100000 in
set_option maxHeartbeats 8000000 in
theorem l25Check_any (R C : Nat) (S : List Slt) (ws : List ByteArray) (wa sa : Option Addr) (wc sc sb : Nat) (hR : R ≤ 5) (hC : C ≤ 5) (hS : ∀ s ∈ S, s.within R C) (hSl : S.length ≤ 100) (hl : ws.length ≤ 200) (hf : WordsFit ws) :
    ∀ (f : Nat) (gs : ByteArray) (P : List Int) (b o : Nat) (pa : Option Addr) (pc : Nat) (w : World), gs.size = R * C → P.length ≤ f → P.length ≤ pc → pc ≤ 4611686018427387904 → SrchAt w sb wa sa wc sc ws S → GAt w b o R C gs → SliceAt w 1 I64.enc pa P →
      Calls Try.prog 29 #[.pointer (some ⟨sb, 0, none⟩), .pointer (some ⟨b, o, none⟩), .slice pa P.length pc] w (ChkPost (chk C S ws f gs.data.toList P) w) := by
  intro f
  induction f with
  | zero =>
    intro gs P b o pa pc w hz hpf hpc hpm hs hg hp
    obtain rfl : P = [] := List.length_eq_zero_iff.1 (by omega)
    have HN := Lib.hid (chk_none (C := C) (S := S) (ws := ws) (f := 0) (L := gs.data.toList))
    clear hz hs hg hp
    go_enter Try.func29, Try.ntmps29
    go_wp2_with fail
    go_quiet (fail)
    go_wp2
    go_ret2
    exact ⟨none, 0, by rw [HN.out]; rfl, by rw [HN.out]; exact .inl rfl, by rw [HN.out]; exact Nat.zero_le _, by omega, (Drew.bel ⟨_, rfl⟩)⟩
  | succ f ih =>
    intro gs P b o pa pc w hz hpf hpc hpm hs hg hp
    have IH := Lib.hid ih
    clear ih
    cases P with
    | nil =>
      have HN := Lib.hid (chk_none (C := C) (S := S) (ws := ws) (f := f + 1) (L := gs.data.toList))
      clear hz hs hg hp
      go_enter Try.func29, Try.ntmps29
      go_wp2_with fail
      go_quiet (fail)
      go_wp2
      go_ret2
      exact ⟨none, 0, by rw [HN.out]; rfl, by rw [HN.out]; exact .inl rfl, by rw [HN.out]; exact Nat.zero_le _, by omega, (Drew.bel ⟨_, rfl⟩)⟩
    | cons p ps =>
      obtain ⟨pb, po, rfl, hcp⟩ := hp.open (k := 0) (by simp)
      have c0 := hcp.at0 (k := 0) (by simp) (v := .int .i64 p) rfl
      rw [Nat.zero_mul, Nat.add_zero] at c0
      have s1 := hs.2.1
      have HL1 : Hid ((p :: ps).length = ps.length + 1) := Lib.hid rfl
      cases hw : withinB p 0 ((S.length : Int) - 1) with
      | false =>
        have HN := Lib.hid (chk_bad (C := C) (S := S) (ws := ws) (f := f) (L := gs.data.toList) (ps := ps) hw)
        have HI : Hid (∀ W, Calls Try.prog 51 #[.int .i64 p, .int .i64 0, .int .i64 ((S.length : Int) - 1)] W fun e w' => e = .returned (.bool false) ∧ W = w') := Lib.hid (fun W => by have := l00In_any p 0 ((S.length : Int) - 1) W; rwa [hw] at this)
        clear hz hs hg hp hw hcp
        rw [List.length_cons] at hpc hpf
        have e1 : IntKind.i64.wrap ((S.length : Int) - 1) = (S.length : Int) - 1 := IntWalk.i64_in _ (by omega)
        go_enter Try.func29, Try.ntmps29
        go_wp2_with fail
        go_quiet ((go_at_call 51; with_reducible exact quiet_of_eq (HI.out _)))
        clear e1
        go_wp2
        go_ret2
        exact ⟨none, 0, by rw [HN.out]; rfl, by rw [HN.out]; exact .inl rfl, by rw [HN.out]; exact Nat.zero_le _, by omega, (Drew.bel ⟨_, rfl⟩)⟩
      | true =>
        obtain ⟨i, rfl, i1, i2⟩ := within_nat (by omega) hw
        have hi : i < S.length := by omega
        have HI : Hid (∀ W, Calls Try.prog 51 #[.int .i64 (i : Int), .int .i64 0, .int .i64 ((S.length : Int) - 1)] W fun e w' => e = .returned (.bool true) ∧ W = w') := Lib.hid (fun W => by have := l00In_any (i : Int) 0 ((S.length : Int) - 1) W; rwa [hw] at this)
        obtain ⟨sk, so, rfl, hcs⟩ := hs.2.2.2.open hi
        have HSA := Lib.hid (cells_slt hcs hi)
        have HIN := Lib.hid (hS S[i] (List.getElem_mem hi))
        have HGOOD := Lib.hid (chk_good (C := C) (ws := ws) (f := f) (L := gs.data.toList) (ps := ps) hi)
        have HTL := Lib.hid (cells_tail hcp)
        have HSR := Lib.hid hs
        have HG := Lib.hid hg
        have HZ := Lib.hid hz
        have hii : (i : Int) < (S.length : Int) := by omega
        generalize S[i] = s at *
        clear hz hs hg hp hw hcp hcs i1 i2
        rw [List.length_cons] at hpc hpf
        generalize hK : (fun (x : ByteArray) (r : List Int) => chk C S ws f (putL C gs.data.toList s x.data.toList) r) = K at *
        have HKX : Hid (∀ x r, chk C S ws f (putL C gs.data.toList s x.data.toList) r = K x r) := Lib.hid (fun x r => by rw [← hK])
        clear hK
        have HCL : Hid (∀ x ∈ candL C gs.data.toList s ws, x.size = s.len) := Lib.hid cand_len
        have HCN := Lib.hid (cand_le (C := C) (L := gs.data.toList) (s := s) (ws := ws))
        have HWD : Hid (∀ W, SrchAt W sb wa (some ⟨sk, so, none⟩) wc sc ws S → GAt W b o R C gs → SAt W sk (so + i * 4) s → Calls Try.prog 54 #[.pointer (some ⟨b, o, none⟩), .slice wa ws.length wc, .pointer (some ⟨sk, so + i * 4, none⟩)] W (TextsPost W (candL C gs.data.toList s ws))) :=
          Lib.hid (fun W h1 h2 h3 => l25Words_any R C gs s ws wa wc b o sk (so + i * 4) W h2 h3 h1.2.2.1 hl hf HIN.out hR hC HZ.out)
        generalize candL C gs.data.toList s ws = cs at *
        have e1 : IntKind.i64.wrap ((S.length : Int) - 1) = (S.length : Int) - 1 := IntWalk.i64_in _ (by omega)
        go_enter Try.func29, Try.ntmps29
        go_wp2_with fail
        go_quiet ((go_at_call 51; with_reducible exact quiet_of_eq (HI.out _)))
        clear e1 HI
        have hd : Drew w (w.drewN nq) := ⟨_, rfl⟩
        have hb := hd.bel
        replace c0 := cell_kept c0 hb
        replace s1 := cell_kept s1 hb
        replace HSR := Lib.hid (HSR.out.kept hb)
        replace HG := Lib.hid (HG.out.kept hb)
        replace HSA := Lib.hid (HSA.out.kept hb)
        replace HTL := Lib.hid (HTL.out.kept hb)
        clear hd
        generalize w.drewN nq = w1 at *
        go_wp2_with fail
        go_quiet (fail)
        have hd : Drew w1 (w1.drewN nq) := ⟨_, rfl⟩
        have hb1 := hd.bel
        replace HSR := Lib.hid (HSR.out.kept hb1)
        replace HG := Lib.hid (HG.out.kept hb1)
        replace HSA := Lib.hid (HSA.out.kept hb1)
        replace HTL := Lib.hid (HTL.out.kept hb1)
        replace hb := hb.trans (hb1.mono hb.size)
        clear hd hb1 c0 s1
        generalize w1.drewN nq = w2 at *
        have s0 := HSR.out.1
        go_wp2_with fail
        refine (HWD.out _ HSR.out HG.out HSA.out).mono ?_
        rintro e w3 ⟨gc, cc, rfl, hoc, hd⟩
        replace HSR := Lib.hid (HSR.out.kept hd)
        replace HG := Lib.hid (HG.out.kept hd)
        replace HSA := Lib.hid (HSA.out.kept hd)
        replace HTL := Lib.hid (HTL.out.kept hd)
        have HCS := Lib.hid (own_slice Tx.enc_len hoc rfl)
        replace hb := hb.trans (hd.mono hb.size)
        clear hd hoc HWD s0
        go_upto_region 5 with fail
        go_cut [10] (fun s10 wx => ∃ ra : Option Addr, s10 = .slice ra ps.length (pc - 1) ∧ Hid (SliceAt wx 1 I64.enc ra ps) ∧ w3 = wx)
        case first =>
          by_cases hp1 : pc = 1
          · subst hp1
            obtain rfl : ps = [] := List.length_eq_zero_iff.1 (by omega)
            go_wp2_with fail
            go_meet
            exact ⟨_, rfl, Lib.hid (.inl rfl), rfl⟩
          · have hp2 : (1 : Int) < (pc : Int) := by omega
            have hp3 : ¬ (pc : Int) = 1 := by omega
            go_wp2_with fail
            go_meet
            exact ⟨_, rfl, HTL, rfl⟩
        case rest =>
          obtain ⟨ra0, rfl, HT0, rfl⟩ := hcut
          have HCC : Hid (chk C S ws (f + 1) gs.data.toList ((i : Int) :: ps) = chain K (cs.drop 0) ps) := Lib.hid HGOOD.out
          have hcn : cs.length ≤ 200 := by have := HCN.out; omega
          clear HGOOD HTL HCN
          go_wp2_with fail
          go_loopw [10, 11] (fun rv iv wr => ∃ (k : Nat) (r : List Int) (ra : Option Addr) (rc : Nat), k ≤ cs.length ∧ iv = .int .i64 k ∧ rv = .slice ra r.length rc ∧ r.length ≤ f ∧ r.length ≤ rc ∧ rc ≤ 4611686018427387904 ∧ Hid (chk C S ws (f + 1) gs.data.toList ((i : Int) :: ps) = chain K (cs.drop k) r) ∧ Hid (SliceAt wr 1 I64.enc ra r) ∧ Below w3.heap.size w3 wr) (fun _ iv _ => cs.length - (intOf iv).toNat)
          case atStart => exact ⟨0, ps, ra0, pc - 1, Nat.zero_le _, rfl, rfl, by omega, by omega, by omega, HCC, HT0, Below.refl _ _⟩
          case round =>
            clear HCC HT0
            obtain ⟨k, r, ra, rc, hk, rfl, rfl, hrf, hrc, hrm, HCC, HT, hb3⟩ := hrel
            by_cases hlt : k < cs.length
            · obtain ⟨mb, mo, hmm, hcc⟩ := (HCS.out.kept hb3).open hlt
              have c0 := hcc.at0 hlt (v := .string cs[k]) rfl
              rw [Nat.mul_one] at c0
              have HXS := Lib.hid (HCL.out cs[k] (List.getElem_mem hlt))
              have HST := Lib.hid (chain_step (k := K) hlt r)
              have hmm2 : mb = gc ∧ mo = 0 := by simpa using hmm.symm
              obtain ⟨rfl, rfl⟩ := hmm2
              rw [Nat.zero_add] at c0
              clear hcc hmm
              generalize cs[k] = x at *
              have HSR3 := Lib.hid (HSR.out.kept hb3)
              have HG3 := Lib.hid (HG.out.kept hb3)
              have HSA3 := Lib.hid (HSA.out.kept hb3)
              go_wp2_with fail
              refine (l25Put_any R C gs s x b o sk (so + i * 4) _ HG3.out HSA3.out HXS.out HIN.out hR hC HZ.out).mono ?_
              rintro e w4 ⟨rfl, hd⟩
              have HZ4 : Hid ((mkB (putL C gs.data.toList s x.data.toList)).size = R * C) := Lib.hid (by rw [mkB_size, putL_len, ← HZ.out]; simp)
              have HIH := Lib.hid (IH.out (mkB (putL C gs.data.toList s x.data.toList)) r)
              rw [mkB_data, HKX.out] at HIH
              generalize mkB (putL C gs.data.toList s x.data.toList) = ns at *
              replace hb3 := hb3.trans (hd.mono hb3.size)
              replace HT := Lib.hid (HT.out.kept hd)
              replace HSR3 := Lib.hid (HSR3.out.kept hd)
              clear hd c0 HG3 HSA3
              have hx : Below w4.heap.size w4 (w4.alloc (.cells #[.int .i64 R, .int .i64 C, .string ns] 31)) := (Below.refl _ _).alloc (Nat.le_refl _) _
              have HGN := Lib.hid (GAt.new w4 R C ns 31)
              replace hb3 := hb3.trans (hx.mono hb3.size)
              replace HT := Lib.hid (HT.out.kept hx)
              replace HSR3 := Lib.hid (HSR3.out.kept hx)
              clear hx
              go_wp2_with fail
              refine (HIH.out w4.heap.size 0 ra rc _ HZ4.out hrf hrc hrm HSR3.out HGN.out HT.out).mono ?_
              rintro e w5 ⟨a5, cap5, rfl, sl5, l5, m5, hd⟩
              replace hb3 := hb3.trans (hd.mono hb3.size)
              clear hd HIH HSR3 HGN HZ4 HT
              have HO := Lib.hid sl5
              clear sl5
              cases ho : K x r with
              | none =>
                have HN : Hid (chk C S ws (f + 1) gs.data.toList ((i : Int) :: ps) = none) := Lib.hid (by rw [HCC.out, HST.out, ho])
                rw [ho] at HO l5
                simp only [Option.getD_none, Option.isSome_none, List.length_nil]
                clear ho HO l5 HCC HST
                go_wp2
                go_ret2
                exact ⟨none, 0, by rw [HN.out]; rfl, by rw [HN.out]; exact .inl rfl, by rw [HN.out]; exact Nat.zero_le _, by omega, hb.trans (hb3.mono hb.size)⟩
              | some r2 =>
                have HN : Hid (chk C S ws (f + 1) gs.data.toList ((i : Int) :: ps) = chain K (cs.drop (k + 1)) r2) := Lib.hid (by rw [HCC.out, HST.out, ho])
                have hr2 : r2.length ≤ f := by
                  have h := ho
                  rw [← HKX.out] at h
                  have := chk_len h
                  omega
                rw [ho] at HO l5
                simp only [Option.getD_some, Option.isSome_some]
                simp only [Option.getD_some] at HO l5
                clear ho HCC HST
                go_wp2
                go_roundw
                case rel => exact ⟨k + 1, r2, a5, cap5, by omega, by go_num, rfl, hr2, l5, m5, HN, HO, hb3⟩
                case measure => simp [intOf]; omega
            · obtain rfl : k = cs.length := by omega
              have HN : Hid (chk C S ws (f + 1) gs.data.toList ((i : Int) :: ps) = some r) := Lib.hid (by rw [HCC.out]; exact chain_end (Nat.le_refl _) r)
              go_wp2
              go_ret2
              exact ⟨ra, rc, by rw [HN.out]; rfl, by rw [HN.out]; exact HT.out, by rw [HN.out]; exact hrc, hrm, hb.trans (hb3.mono hb.size)⟩
end Go.Proofs.Ytjknpmdmchlfcaa
