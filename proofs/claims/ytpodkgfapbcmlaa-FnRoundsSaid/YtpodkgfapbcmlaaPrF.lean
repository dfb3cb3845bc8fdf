/- Contract: PairRound (reference). -/
import Derived.Test.YtpodkgfapbcmlaaPrE
import Derived.Test.YtpodkgfapbcmlaaStO
namespace Go.Proofs.Ytpodkgfapbcmlaa
open Go.ChangeShapes Go.WideShapes Go.ChangeAt Go.RowKit Go.Sort

theorem step_made {P : Program} {c : Prop} [Decidable c] {o : Oper} {a : Act} {X : World} {t : TypeId} {K : Act → World → Prop} {Q : Exit → Act → World → Prop} {E : Prop} (sz : Nat)
    (h : ∀ wz, Below X.heap.size X wz → wz.ownsRow X.heap.size t sz (.slice (some ⟨X.heap.size, 0, none⟩) 0 0) 0 [] → if c then o.wp P a wz K Q else E) : if c then o.wp P a (X.alloc (.cells #[] t)) K Q else E :=
  h _ ((Below.refl _ _).alloc (Nat.le_refl _) _) (World.ownsRow_made X #[] 0 (Nat.le_refl _) (by unfold maxLen; omega) (by simp))
theorem step_made_drew {P : Program} {c : Prop} [Decidable c] {o : Oper} {a : Act} {X : World} {t : TypeId} {K : Act → World → Prop} {Q : Exit → Act → World → Prop} {E : Prop} (sz : Nat)
    (h : ∀ wz, Below X.heap.size X wz → wz.ownsRow X.heap.size t sz (.slice (some ⟨X.heap.size, 0, none⟩) 0 0) 0 [] → if c then o.wp P a wz K Q else E) : if c then o.wp P a (X.drew.alloc (.cells #[] t)) K Q else E :=
  step_made (X := X.drew) sz fun wz hb ho => h wz (((Below.refl X.heap.size X).drew).trans hb) ho
theorem own_new {w : World} {B : Nat} {e : TypeId} {sz n : Nat} {v : Value} {L : List Value} (h : w.ownsRow B e sz v n L) (hv : v ≠ .slice none 0 0) : ∃ g cap, v = .slice (some ⟨g, 0, none⟩) n cap ∧ B ≤ g := by
  rcases h.2 with ⟨h0, _⟩ | ⟨g, c, _, h0, h1, _⟩
  · exact absurd h0 hv
  · exact ⟨g, c, h0, h1⟩
/-- names of the table's first k lines -/
def topNames (T : List Std) (k : Nat) : List ByteArray := (T.take k).map (·.name)
theorem topNames_succ {T : List Std} {k : Nat} (h : k < T.length) : topNames T (k + 1) = topNames T k ++ [T[k].name] := by
  unfold topNames
  rw [List.take_succ_eq_append_getElem h, List.map_append]
  rfl
theorem topNames_len {T : List Std} {k : Nat} (h : k ≤ T.length) : (topNames T k).length = k := by simp [topNames]; omega
theorem topNames_all (T : List Std) : topNames T T.length = T.map (·.name) := by unfold topNames; rw [List.take_length]
theorem nm_new (w : World) (x : ByteArray) (e : TypeId) : ∀ j u, (Nm.enc x)[j]? = some u → (w.alloc (.cells #[.string x] e)).cell? ((⟨w.heap.size, 0, none⟩ : Addr).add j) = some u := by
  intro j u hu
  rw [Go.Addr.add_lit, Nat.zero_add]
  match j, hu with
  | 0, hu =>
    rw [cell_new0 w #[.string x] e (i := 0) (v := .string x) rfl]
    exact hu
  | (j + 1), hu => simp [Nm.enc] at hu

set_option maxRecDepth 100000 in
set_option maxHeartbeats 40000000 in
theorem specPairRound_anyN (ms : List Mem) (rs : List Res) (aq : Option Addr) (ra : Option Addr) (cap rcap : Nat) (w : World) (hm : SliceAt w 2 Mem.enc aq ms) (hn : aq = none → ms = [] ∧ cap = 0) (hr : SliceAt w 4 Res.enc ra rs) (hl : ms.length ≤ 1048576) (hlr : rs.length ≤ 1048576) (hf : MemsFit ms) (hfr : ResFit rs) :
    Calls Try.prog 50 #[.agg #[.slice aq ms.length cap], .slice ra rs.length rcap] w (RowsCode w 82 2 Pai.enc (pairRound ms rs)) := by
  have HM := Lib.hid hm; clear hm
  have HNN := Lib.hid hn; clear hn
  have HRS := Lib.hid hr; clear hr
  have HFR := Lib.hid hfr; clear hfr
  have hb : Below w.heap.size w (w.alloc (.cells #[.slice aq ms.length cap] 30)) := (Below.refl _ _).alloc (Nat.le_refl _) _
  have c1 := cell_new0 w #[.slice aq ms.length cap] 30 (i := 0) (v := .slice aq ms.length cap) rfl
  cases hcode : (codeOf ms rs == 0) with
  | false =>
    have hcd : codeOf ms rs ≠ 0 := by simpa using hcode
    have HR := Lib.hid (pairRound_bad hcd)
    have HCN := Lib.hid hcd
    clear hcode hcd
    go_enter Try.func50, Try.ntmps50
    go_wp2_with fail
    generalize w.alloc (.cells #[.slice aq ms.length cap] 30) = w1 at *
    refine (l26Code_any ms rs _ 0 aq ra cap rcap w1 c1 (HM.out.kept hb) (HRS.out.kept hb) hl hlr hf HFR.out).mono ?_
    rintro e w3 ⟨rfl, hd0⟩
    have hd := hd0.below w1.heap.size
    clear hd0
    replace hb := hb.trans (hd.mono hb.size)
    clear hd
    obtain ⟨code, hcg⟩ : ∃ code, codeOf ms rs = code := ⟨_, rfl⟩
    have hcn := HCN.out
    rw [hcg] at hcn ⊢
    have HCG := Lib.hid hcg
    clear hcg
    go_wp2
    go_ret2
    rw [HR.out, HCG.out]
    exact ⟨none, 0, rfl, by simpa using World.ownsRow_nil _ w.heap.size 82 2, hb⟩
  | true =>
    have hcd : codeOf ms rs = 0 := by simpa using hcode
    have HR := Lib.hid (pairRound_ok hcd)
    obtain ⟨z1, z2, z3, z4⟩ := code_zero hcd
    have z12 : ms.length ≤ 12 := by
      simp only [clubOk, Bool.and_eq_true, decide_eq_true_eq] at z1
      exact z1.1
    have H2 := Lib.hid z2
    have HCD := Lib.hid hcd
    clear hcode hcd z1 z2 z3
    obtain ⟨i0, hi0, hz0, hz1, hz2⟩ := info_parts infoName
    obtain ⟨ip, ip0, ip1, ip2, ip3⟩ := info_parts infoPairing
    go_enter Try.func50, Try.ntmps50
    go_wp2_with fail
    generalize w.alloc (.cells #[.slice aq ms.length cap] 30) = w1 at *
    refine (l26Code_any ms rs _ 0 aq ra cap rcap w1 c1 (HM.out.kept hb) (HRS.out.kept hb) hl hlr hf HFR.out).mono ?_
    rintro e w3 ⟨rfl, hd0⟩
    have hd := hd0.below w1.heap.size
    clear hd0
    rw [HCD.out]
    replace hb := hb.trans (hd.mono hb.size)
    replace c1 := cell_kept c1 hd
    clear hd
    go_wp2_with fail
    refine (l26Table_anyN ms rs _ 0 aq cap ra rcap _ c1 (HM.out.kept hb) HNN.out (HRS.out.kept hb) z12 z4 H2.out).mono ?_
    rintro e w4 ⟨a4, cap4, rfl, ho, hd⟩
    have hb4 := hb.trans (hd.mono hb.size)
    have SM := Lib.hid (HRS.out.kept hb4)
    have HB4 := Lib.hid hb4
    have HT := Lib.hid (own_slice Std.enc_len ho rfl)
    have HNM : Hid ((tableOf ms rs).map (·.name) = namesOf ms rs) := Lib.hid rfl
    have hTl : (tableOf ms rs).length ≤ 12 := by rw [tableOf_len]; exact z12
    generalize tableOf ms rs = T at *
    clear hb hb4 hd ho c1 HM HRS
    have hd : Below w4.heap.size w4 (w4.alloc (.cells #[] 9)) := (Below.refl _ _).alloc (Nat.le_refl _) _
    have HO := Lib.hid (World.ownsRow_made (base := w4.heap.size) (e := 9) (size := 1) w4 #[] 0 (Nat.le_refl _) (by unfold maxLen; omega) rfl)
    go_wp2
    generalize w4.alloc (.cells #[] 9) = w5 at *
    go_loopw [8, 9] (fun ov iv wr => ∃ (k g cp : Nat), k ≤ T.length ∧ iv = .int .i64 k ∧ ov = .slice (some ⟨g, 0, none⟩) k cp ∧ Hid (wr.ownsRow w4.heap.size 9 1 (.slice (some ⟨g, 0, none⟩) k cp) k ((topNames T k).flatMap Nm.enc)) ∧ Below w4.heap.size w4 wr) (fun _ iv _ => T.length - (intOf iv).toNat)
    case atStart => exact ⟨0, _, 0, Nat.zero_le _, rfl, rfl, HO, hd⟩
    case round =>
      clear HO hd
      obtain ⟨k, g, cp, hk, rfl, rfl, HO, hd⟩ := hrel
      by_cases hlt : k < T.length
      · obtain ⟨tb, tof, rfl, hcs⟩ := (HT.out.kept hd).open hlt
        have m0 := hcs.at0 hlt rfl
        clear hcs
        have HSUCC := Lib.hid (topNames_succ hlt)
        have KO := Lib.hid (own_alloc HO.out (.cells #[.string T[k].name] 9))
        have KN := Lib.hid (nm_new wr T[k].name 9)
        have hx : Below wr.heap.size wr (wr.alloc (.cells #[.string T[k].name] 9)) := (Below.refl _ _).alloc (Nat.le_refl _) _
        have hdx := hd.trans (hx.mono hd.size)
        go_wp2_with (at_builtin; go_must (refine wpList_append_own _ rfl (.tmp 30) (.tmp 36) 80 rfl w4.heap.size 9 i0 (.string ⟨#[]⟩) 1 16 Try.underlying80 hi0 hz0 hz1 hz2 rfl (by decide) (.slice (some ⟨g, 0, none⟩) k cp) k ((topNames T k).flatMap Nm.enc) rfl KO.out ⟨wr.heap.size, 0, none⟩ 1 1 (Nm.enc T[k].name) rfl rfl KN.out (fun u hu => nm_oneCell [T[k].name] u (by simpa using hu)) ?a1 ?a2 ?a3 ?_))
        case a1 => unfold maxLen; omega
        case a2 => omega
        case a3 => have := hd.size; simp; omega
        intro v6 w6 ho6 hg6 hn6
        obtain ⟨g6, cap6, rfl, hB6, hl6⟩ := ho6.form (by omega)
        have HO6 : Hid (w6.ownsRow w4.heap.size 9 1 (.slice (some ⟨g6, 0, none⟩) (k + 1) cap6) (k + 1) ((topNames T (k + 1)).flatMap Nm.enc)) := by
          rw [HSUCC.out]
          exact Lib.hid (own_as ho6 (by simp))
        have hd6 := hdx.grown hg6 hdx.size (fun j hj => (HO.out.lt j hj).1)
        clear ho6 hg6 hn6 hx hdx KO KN HO
        go_wp2
        go_roundw
        case rel => exact ⟨k + 1, g6, cap6, by omega, by go_num, rfl, HO6, hd6⟩
        case measure => simp [intOf]; omega
      · obtain rfl : k = T.length := by omega
        clear hk hlt
        have hNl : T.length = (namesOf ms rs).length := by rw [← HNM.out]; simp
        have HCX := HO.out
        rw [topNames_all, HNM.out, hNl] at HCX
        rw [hNl] at hTl ⊢
        generalize namesOf ms rs = nm at *
        obtain ⟨hcp1, hcp2⟩ := own_cap HCX
        have HCN := Lib.hid (own_cellsAt Nm.enc_len HCX rfl)
        have HD := Lib.hid hd
        clear HCX HO hNl HT HNM hd
        cases hpar : ((nm.length : Int) % 2 == 0) with
        | true =>
          have hn2 : nm.length % 2 = 0 := by simp at hpar; omega
          have HY := Lib.hid (fun h => roundOf_even_yes (rs := rs) hn2 h)
          have HX := Lib.hid (fun h => roundOf_even_no (rs := rs) hn2 h)
          clear hn2
          go_wp2_with fail
          refine (l26Pairs_any rs ra rcap hlr 13 nm g 0 cp wr (by omega) (by omega) HCN.out hcp1 hcp2 (SM.out.kept HD.out)).mono ?_
          rintro e w6 ⟨a6, cap6, rfl, hne, ho, hd6⟩
          have HB6 := Lib.hid (HB4.out.trans ((HD.out.trans (hd6.mono HD.out.size)).mono HB4.out.size))
          have HO6 := Lib.hid (own_mono ho (Nat.le_trans HB4.out.size HD.out.size))
          have HRR := HR
          clear ho hd6 hne
          obtain ⟨P, hP⟩ : ∃ P, pairsN rs 13 nm = P := ⟨_, rfl⟩
          rw [hP] at HO6 HY HX ⊢
          clear hP
          obtain ⟨pl, pb⟩ := P
          cases pb with
          | false =>
            have HE := Lib.hid (HR.out.trans (HX.out rfl))
            clear HX HY HO6
            go_wp2
            go_ret2
            rw [HE.out]
            exact ⟨none, 0, rfl, by simpa using World.ownsRow_nil _ w.heap.size 82 2, HB6.out⟩
          | true =>
            have HE := Lib.hid (HR.out.trans (HY.out rfl))
            clear HX HY
            go_wp2
            go_ret2
            rw [HE.out]
            exact ⟨a6, cap6, rfl, HO6.out, HB6.out⟩
        | false =>
          have hn2 : ¬ nm.length % 2 = 0 := by simp at hpar; omega
          have HY := Lib.hid (fun p h => roundOf_odd_yes (rs := rs) (p := p) hn2 h)
          have HX := Lib.hid (fun h => roundOf_odd_no (rs := rs) hn2 h)
          clear hn2
          generalize wr = wn at *
          go_wp2_with fail
          go_loopw [12] (fun iv wr => ∃ (k : Nat) (z : Int), k ≤ nm.length ∧ iv = .int .i64 z ∧ z = (k : Int) - 1 ∧ Hid (oddFrom rs nm k = oddFrom rs nm nm.length) ∧ Below wn.heap.size wn wr) (fun iv _ => (intOf iv + 1).toNat)
          case atStart => exact ⟨nm.length, _, Nat.le_refl _, rfl, rfl, Lib.hid rfl, Below.refl _ _⟩
          case round =>
            obtain ⟨k, z, hk, rfl, hz, HF, hb⟩ := hrel
            by_cases hk0 : 0 < k
            · obtain ⟨j, rfl⟩ : ∃ j, k = j + 1 := ⟨k - 1, by omega⟩
              obtain rfl : z = (j : Int) := by omega
              have hj : j < nm.length := by omega
              clear hz hk0 hk
              have cs := cellsAt_kept HCN.out hb
              have qj := nm_at cs hj
              simp only [Nat.zero_add] at qj
              have CS := Lib.hid cs
              clear cs
              have SR := Lib.hid ((SM.out.kept HD.out).kept hb)
              have hp0 := l26Played_any rs nm[j] ⟨#[]⟩ ra rcap wr SR.out (by omega)
              cases hp : played rs nm[j] ⟨#[]⟩ with
              | true =>
                rw [hp] at hp0
                have HF2 := Lib.hid ((oddFrom_played hj hp).symm.trans HF.out)
                have HP := Lib.hid hp0
                clear hp0 hp
                go_wp2_with fail
                refine HP.out.mono ?_
                rintro e wq ⟨rfl, rfl⟩
                go_wp2
                go_roundw
                case rel => exact ⟨j, _, by omega, rfl, rfl, HF2, hb⟩
                case measure => simp [intOf] <;> omega
              | false =>
                rw [hp] at hp0
                have HP := Lib.hid hp0
                have HPF := Lib.hid hp
                clear hp0 hp
                go_wp2_with fail
                refine HP.out.mono ?_
                rintro e wq ⟨rfl, rfl⟩
                clear HP
                go_upto_region 19 with fail
                have hgb := block_lt qj
                have hjc : (j : Int) ≤ (cp : Int) := by omega
                have hjn : (j : Int) + 1 ≤ (nm.length : Int) := by omega
                have hw1 : IntKind.i64.wrap ((j : Int) + 1) = (j : Int) + 1 := IntWalk.i64_in _ (by omega)
                have hw2 : ((j : Int) + 1).toNat = j + 1 := by omega
                have hw3 : (0 : Int) ≤ (j : Int) + 1 := by omega
                have hw4 : (j : Int) ≤ (j : Int) + 1 := by omega
                have hw5 : (j : Int) ≤ ((j + 1 : Nat) : Int) := by omega
                go_cut [13] (fun s13 wx => ∃ g' cap', s13 = .slice (some ⟨g', 0, none⟩) (dropAt nm j).length cap' ∧ CellsAt wx 1 Nm.enc g' 0 (dropAt nm j) ∧ (dropAt nm j).length ≤ cap' ∧ cap' ≤ maxLen ∧ Below wr.heap.size wr wx)
                case first =>
                  have k1 := nm_take CS.out j
                  have l1 : ((nm.take j).flatMap Nm.enc).length = j * 1 := by rw [flatMap_len Nm.enc_len]; simp; omega
                  have l2 : ((nm.drop (j + 1)).flatMap Nm.enc).length = (nm.length - (j + 1)) * 1 := by rw [flatMap_len Nm.enc_len]; simp
                  have hdl : (dropAt nm j).length = j + (nm.length - (j + 1)) := by rw [dropAt_len hj]; omega
                  have hdf : (dropAt nm j).flatMap Nm.enc = (nm.take j).flatMap Nm.enc ++ (nm.drop (j + 1)).flatMap Nm.enc := by unfold dropAt; rw [List.flatMap_append]
                  generalize nm.take j = A at *
                  have K1 := Lib.hid k1
                  have L1 := Lib.hid l1
                  have L2 := Lib.hid l2
                  have HDL := Lib.hid hdl
                  have HDF := Lib.hid hdf
                  clear k1 l1 l2 hdl hdf
                  have hk : Below wr.heap.size wr wr := Below.refl _ _
                  by_cases hcj : cp = j + 1
                  · have KK : Hid (∀ (wx : World), CellsAt wx 1 Nm.enc g 0 nm → ∀ p u, ((nm.drop (j + 1)).flatMap Nm.enc)[p]? = some u → wx.cell? ((⟨g, 0, none⟩ : Addr).add p) = some u) := Lib.hid (fun _ _ p u h => by rw [List.drop_eq_nil_of_le (by omega)] at h; simp at h)
                    go_region_law
                      (first
                        | ((first | refine step_made 1 ?_ | refine step_made_drew 1 ?_); intro wz hxz how; refine step_append_own ?_ (.tmp 64) (.tmp 67) 80 ?_ wr.heap.size 9 i0 (.string ⟨#[]⟩) 1 16 Try.underlying80 hi0 hz0 hz1 hz2 rfl (by decide) (.slice (some ⟨wr.heap.size, 0, none⟩) 0 0) 0 [] ?_ how ⟨g, 0, none⟩ j (j + 1) (A.flatMap Nm.enc) ?_ L1.out (nm_news (cellsAt_kept K1.out hxz)) (nm_oneCell _) ?_ ?_ hxz.size ?_; (all_goals (first | rfl | (unfold maxLen; omega) | omega | skip)); intro v6 w6 ho6 hg6 hn6; rw [Nat.zero_add] at ho6; obtain ⟨g6, cap6, rfl, hB6⟩ := own_new ho6 (fun h => by have := (hn6.1 h).1; simp at this); have hk6 := below_grown hxz hxz.size hg6 (Nat.le_refl _); have HC6 := Lib.hid (cellsAt_grown (cellsAt_kept CS.out hxz) hg6 (by simp [Value.ownBlock]; omega)); have HO6 := Lib.hid ho6; clear ho6 hg6 hn6 hxz how)
                        | (refine step_append_own ?_ (.tmp 68) (.tmp 72) 80 ?_ wr.heap.size 9 i0 (.string ⟨#[]⟩) 1 16 Try.underlying80 hi0 hz0 hz1 hz2 rfl (by decide) (.slice (some ⟨_, 0, none⟩) j _) j (A.flatMap Nm.enc) ?_ HO6.out ⟨g, 0, none⟩ (nm.length - (j + 1)) (0) ((nm.drop (j + 1)).flatMap Nm.enc) ?_ L2.out (KK.out _ HC6.out) (nm_oneCell _) ?_ ?_ hk6.size ?_; (all_goals (first | rfl | (unfold maxLen; omega) | omega | skip)); intro v7 w7 ho7 hg7 hn7; obtain ⟨g7, cap7, rfl, hB7⟩ := own_new ho7 (fun h => by have := (hn7.1 h).1; simp at this); have hk7 := below_grown hk6 hk6.size hg7 hB6; have HO7 := Lib.hid (own_as ho7 HDF.out.symm); clear ho7 hg7 hn7))
                    all_goals
                      go_wp2_with fail
                      rw [← hcj]
                      go_meet
                      obtain ⟨u1, u2⟩ := own_cap HO7.out
                      exact ⟨_, _, by rw [HDL.out]; try rw [hcj], own_cellsAt Nm.enc_len HO7.out HDL.out.symm, by rw [HDL.out]; exact u1, u2, hk7⟩
                  · have KK : Hid (∀ (wx : World), CellsAt wx 1 Nm.enc g 0 nm → ∀ p u, ((nm.drop (j + 1)).flatMap Nm.enc)[p]? = some u → wx.cell? ((⟨g, j + 1, none⟩ : Addr).add p) = some u) := Lib.hid (fun _ h => nm_news (by have := nm_drop h (j + 1); rwa [Nat.zero_add] at this))
                    go_region_law
                      (first
                        | ((first | refine step_made 1 ?_ | refine step_made_drew 1 ?_); intro wz hxz how; refine step_append_own ?_ (.tmp 64) (.tmp 67) 80 ?_ wr.heap.size 9 i0 (.string ⟨#[]⟩) 1 16 Try.underlying80 hi0 hz0 hz1 hz2 rfl (by decide) (.slice (some ⟨wr.heap.size, 0, none⟩) 0 0) 0 [] ?_ how ⟨g, 0, none⟩ j (cp) (A.flatMap Nm.enc) ?_ L1.out (nm_news (cellsAt_kept K1.out hxz)) (nm_oneCell _) ?_ ?_ hxz.size ?_; (all_goals (first | rfl | (unfold maxLen; omega) | omega | skip)); intro v6 w6 ho6 hg6 hn6; rw [Nat.zero_add] at ho6; obtain ⟨g6, cap6, rfl, hB6⟩ := own_new ho6 (fun h => by have := (hn6.1 h).1; simp at this); have hk6 := below_grown hxz hxz.size hg6 (Nat.le_refl _); have HC6 := Lib.hid (cellsAt_grown (cellsAt_kept CS.out hxz) hg6 (by simp [Value.ownBlock]; omega)); have HO6 := Lib.hid ho6; clear ho6 hg6 hn6 hxz how)
                        | (refine step_append_own ?_ (.tmp 68) (.tmp 72) 80 ?_ wr.heap.size 9 i0 (.string ⟨#[]⟩) 1 16 Try.underlying80 hi0 hz0 hz1 hz2 rfl (by decide) (.slice (some ⟨_, 0, none⟩) j _) j (A.flatMap Nm.enc) ?_ HO6.out ⟨g, j + 1, none⟩ (nm.length - (j + 1)) (cp - (j + 1)) ((nm.drop (j + 1)).flatMap Nm.enc) ?_ L2.out (KK.out _ HC6.out) (nm_oneCell _) ?_ ?_ hk6.size ?_; (all_goals (first | rfl | (unfold maxLen; omega) | omega | skip)); intro v7 w7 ho7 hg7 hn7; obtain ⟨g7, cap7, rfl, hB7⟩ := own_new ho7 (fun h => by have := (hn7.1 h).1; simp at this); have hk7 := below_grown hk6 hk6.size hg7 hB6; have HO7 := Lib.hid (own_as ho7 HDF.out.symm); clear ho7 hg7 hn7))
                    all_goals
                      go_wp2_with fail
                      skip
                      go_meet
                      obtain ⟨u1, u2⟩ := own_cap HO7.out
                      exact ⟨_, _, by rw [HDL.out]; try rw [hcj], own_cellsAt Nm.enc_len HO7.out HDL.out.symm, by rw [HDL.out]; exact u1, u2, hk7⟩
                case rest =>
                  clear hw1 hw2 hw3 hw4 hw5
                  generalize wc = wa at *
                  obtain ⟨g7, cap7, rfl, cs7, h1, h2, hd7⟩ := hcut
                  have HB7 := Lib.hid (hb.trans (hd7.mono hb.size))
                  have CS7 := Lib.hid (cellsAt_kept CS.out hd7)
                  have C7 := Lib.hid cs7
                  have HDL := Lib.hid (dropAt_len hj)
                  clear hd7 cs7 CS hjc
                  go_wp2_with fail
                  have hdl := HDL.out
                  refine (l26Pairs_any rs ra rcap hlr 13 (dropAt nm j) g7 0 cap7 wa (by omega) (by omega) C7.out h1 h2 ((SM.out.kept HD.out).kept HB7.out)).mono ?_
                  rintro e w8 ⟨a8, cap8, rfl, hne, ho, hd8⟩
                  have hpl0 := pairsN_len rs 13 (dropAt nm j) (by omega)
                  have HY2 := Lib.hid (fun h => oddFrom_yes hj HPF.out h)
                  have HX2 := Lib.hid (fun h => oddFrom_no hj HPF.out h)
                  have HB8 := Lib.hid (HB7.out.trans (hd8.mono HB7.out.size))
                  have HS8 := Lib.hid hd8.size
                  have cs8 := cellsAt_kept CS7.out hd8
                  have q8 := nm_at cs8 hj
                  simp only [Nat.zero_add] at q8
                  have HO8 := Lib.hid ho
                  clear hd8 cs8 CS7 C7 ho h1 h2 hdl qj
                  obtain ⟨P, hP⟩ : ∃ P, pairsN rs 13 (dropAt nm j) = P := ⟨_, rfl⟩
                  rw [hP] at hne HO8 HY2 HX2 hpl0 ⊢
                  clear hP
                  obtain ⟨pl, pb⟩ := P
                  cases pb with
                  | false =>
                    have HF2 := Lib.hid ((HX2.out rfl).symm.trans HF.out)
                    clear HX2 HY2 HO8 hne
                    go_wp2
                    go_roundw
                    case rel => exact ⟨j, _, by omega, rfl, rfl, HF2, HB8.out⟩
                    case measure => simp [intOf] <;> omega
                  | true =>
                    have HE := Lib.hid (HR.out.trans (HY.out _ ((HY2.out rfl).symm.trans HF.out).symm))
                    clear HX2 HY2 hne
                    have KO := Lib.hid (own_alloc HO8.out (.cells #[.string nm[j], .string ⟨#[]⟩] 82))
                    have KN := Lib.hid (own_news (L1 := Pai.enc ⟨nm[j], ⟨#[]⟩⟩) (L2 := []) (own_as (pai_new w8 ⟨nm[j], ⟨#[]⟩⟩ 82 w8.heap.size (Nat.le_refl _)) (by simp)))
                    have hx : Below w8.heap.size w8 (w8.alloc (.cells #[.string nm[j], .string ⟨#[]⟩] 82)) := (Below.refl _ _).alloc (Nat.le_refl _) _
                    have HX8 := Lib.hid (HB8.out.trans (hx.mono HB8.out.size))
                    have hw8 : wa.heap.size ≤ w8.heap.size := HS8.out
                    have hpl1 : pl.length ≤ 13 := hpl0
                    clear hx
                    go_wp2_with (at_builtin; go_must (refine wpList_append_own _ rfl (.tmp 81) (.tmp 87) 77 rfl wa.heap.size 82 ip (.agg #[.string ⟨#[]⟩, .string ⟨#[]⟩]) 2 32 Try.underlying77 ip0 ip1 ip2 ip3 rfl (by decide) (.slice a8 pl.length cap8) pl.length (pl.flatMap Pai.enc) rfl KO.out ⟨w8.heap.size, 0, none⟩ 1 1 (Pai.enc ⟨nm[j], ⟨#[]⟩⟩) rfl rfl KN.out (pai_one _) ?a1 ?a2 ?a3 ?_))
                    case a1 => unfold maxLen; omega
                    case a2 => omega
                    case a3 => simp; omega
                    intro v9 w9 ho9 hg9 hn9
                    obtain ⟨g9, cap9, rfl, hB9, hl9⟩ := ho9.form (by omega)
                    have hbw9 := HX8.out.grown hg9 HX8.out.size (fun q hq => Nat.le_trans HB7.out.size (HO8.out.lt q hq).1)
                    have HB9 := Lib.hid (HB4.out.trans ((HD.out.trans (hbw9.mono HD.out.size)).mono HB4.out.size))
                    have HO9 := Lib.hid (own_mono (own_as ho9 (flat_snoc Pai.enc pl ⟨nm[j], ⟨#[]⟩⟩)) (Nat.le_trans HB4.out.size (Nat.le_trans HD.out.size HB7.out.size)))
                    have hlx : (pl ++ [(⟨nm[j], ⟨#[]⟩⟩ : Pai)]).length = pl.length + 1 := by simp
                    clear ho9 hg9 hn9 hbw9 KO KN
                    go_wp2
                    go_ret2
                    rw [HE.out]
                    refine ⟨some ⟨g9, 0, none⟩, cap9, ?_, ?_, HB9.out⟩
                    · show _ = Ending.returned (.tuple #[.slice (some ⟨g9, 0, none⟩) (pl ++ [(⟨nm[j], ⟨#[]⟩⟩ : Pai)]).length cap9, .int .i64 0])
                      rw [hlx]
                      rfl
                    · simp only [hlx]; exact HO9.out
            · obtain rfl : k = 0 := by omega
              have hz1 : ¬ (0 : Int) ≤ z := by omega
              have hz2 : z < 0 := by omega
              clear hz hk hk0
              have HE := Lib.hid (HR.out.trans (HX.out HF.out.symm))
              have HB6 := Lib.hid (HB4.out.trans ((HD.out.trans (hb.mono HD.out.size)).mono HB4.out.size))
              clear hb
              go_wp2
              go_ret2
              rw [HE.out]
              exact ⟨none, 0, rfl, by simpa using World.ownsRow_nil _ w.heap.size 82 2, HB6.out⟩
theorem specPairRound_any (ms : List Mem) (rs : List Res) (ad : Addr) (ra : Option Addr) (cap rcap : Nat) (w : World) (hm : SliceAt w 2 Mem.enc (some ad) ms) (hr : SliceAt w 4 Res.enc ra rs) (hl : ms.length ≤ 1048576) (hlr : rs.length ≤ 1048576) (hf : MemsFit ms) (hfr : ResFit rs) :
    Calls Try.prog 50 #[.agg #[.slice (some ad) ms.length cap], .slice ra rs.length rcap] w (RowsCode w 82 2 Pai.enc (pairRound ms rs)) :=
  specPairRound_anyN ms rs (some ad) ra cap rcap w hm (by simp) hr hl hlr hf hfr

end Go.Proofs.Ytpodkgfapbcmlaa
