/- Contract: a play is read from a text: the reference. For texts of at most 2^20 bytes. -/
import Derived.Test.YtjdcdhhbgijaoaaGreatDoorPtA
import Derived.Test.YtjdcdhhbgijaoaaGreatDoorNumW
import Derived.Test.YtjdcdhhbgijaoaaGreatDoorRwB
import Derived.Deep.DeepCutAuto
import Derived.Deep.RegionHeld3
namespace Go.Proofs.YtjdcdhhbgijaoaaGreatDoor
open Go.ChangeShapes Go.WideShapes Go.ChangeAt Go.RowKit Go.Sort

/-- what was read, and whether anything was -/
def ReadOut (o : Option Ply) (w : World) (e : Ending) (w' : World) : Prop :=
  e = .returned (.tuple #[.agg #[.int .i64 (o.getD ⟨0, 0, false, ⟨#[]⟩⟩).row, .int .i64 (o.getD ⟨0, 0, false, ⟨#[]⟩⟩).col, .bool (o.getD ⟨0, 0, false, ⟨#[]⟩⟩).down, .string (o.getD ⟨0, 0, false, ⟨#[]⟩⟩).word], .bool o.isSome]) ∧ Below w.heap.size w w'
theorem readOut_no {o : Option Ply} {w w' : World} {e : Ending} (h : o = none) (k : e = .returned (.tuple #[.agg #[.int .i64 0, .int .i64 0, .bool false, .string ⟨#[]⟩], .bool false]) ∧ Below w.heap.size w w') : ReadOut o w e w' := by
  subst h
  exact k
theorem readOut_yes {o : Option Ply} {p : Ply} {w w' : World} {e : Ending} (h : o = some p) (k : e = .returned (.tuple #[.agg #[.int .i64 p.row, .int .i64 p.col, .bool p.down, .string p.word], .bool true]) ∧ Below w.heap.size w w') : ReadOut o w e w' := by
  subst h
  exact k
theorem set4_cell {w : World} {x g o : Nat} {v u0 u1 u2 u3 : Value} (hne : g ≠ x) (h : w.cell? ⟨g, o, none⟩ = some v) : ((((w.setCell ⟨x, 0, none⟩ u0).setCell ⟨x, 1, none⟩ u1).setCell ⟨x, 2, none⟩ u2).setCell ⟨x, 3, none⟩ u3).cell? ⟨g, o, none⟩ = some v := by
  rw [World.cell?_setCell_other _ _ _ _ (fun e => hne (by cases e; rfl)), World.cell?_setCell_other _ _ _ _ (fun e => hne (by cases e; rfl)), World.cell?_setCell_other _ _ _ _ (fun e => hne (by cases e; rfl)), World.cell?_setCell_other _ _ _ _ (fun e => hne (by cases e; rfl)), h]
theorem cut_front (s : ByteArray) : (s.extract 0 (s.size - 1)).data.toList = s.data.toList.take (s.data.toList.length - 1) := by
  have e : s.data.toList.length = s.size := by simp
  rw [ByteArray.data_extract, Array.toList_extract, List.extract_eq_take_drop, e]
  simp
theorem cut_back (s : ByteArray) : (s.extract 1 s.size).data.toList = s.data.toList.drop 1 := by
  have e : s.data.toList.length = s.size := by simp
  rw [ByteArray.data_extract, Array.toList_extract, List.extract_eq_take_drop]
  exact List.take_of_length_le (by rw [List.length_drop, e]; omega)
theorem spec_short {l place word : List UInt8} (h : splitL 32 l = [place, word]) (h2 : ¬ 2 ≤ place.length) : specPlay l = none := by
  unfold specPlay
  rw [h]
  exact if_neg fun k => h2 k.1
theorem spec_long {l place word : List UInt8} (h : splitL 32 l = [place, word]) (h2 : 2 ≤ place.length) : specPlay l = if (specNum (plNumber place)).isSome = true ∧ (rawPlay place word).plain = true then some (rawPlay place word) else none := by
  unfold specPlay
  rw [h]
  simp only
  by_cases hc : (specNum (plNumber place)).isSome = true ∧ (rawPlay place word).plain = true
  · rw [if_pos hc, if_pos ⟨h2, hc.1, hc.2⟩]
  · rw [if_neg hc, if_neg fun k => hc ⟨k.2.1, k.2.2⟩]
theorem spec_not {l : List UInt8} (h : (splitL 32 l).length ≠ 2) : specPlay l = none := by
  unfold specPlay
  split
  · rename_i p w hs
    rw [hs] at h
    exact absurd rfl h
  · rfl
theorem byte_getD (s : ByteArray) (i : Nat) (h : i < s.size) : s.data.toList.getD i 0 = s[i] := by
  rw [List.getD_eq_getElem?_getD, List.getElem?_eq_getElem (by simpa using h)]
  rfl
theorem list_two {α : Type} {L : List α} (h : L.length = 2) : ∃ a b, L = [a, b] := by
  match L, h with
  | [a, b], _ => exact ⟨a, b, rfl⟩
set_option maxRecDepth 100000 in
set_option maxHeartbeats 4000000 in
theorem l12Read_any (s : ByteArray) (w : World) (hs : s.size ≤ 1048576) : Calls Tryz.prog 146 #[.string s] w (ReadOut (specPlay s.data.toList) w) := by
  have hb : Below w.heap.size w (w.alloc (.cells #[.int .i64 0, .int .i64 0, .bool false, .string ⟨#[]⟩] 30)) := (Below.refl _ _).alloc (Nat.le_refl _) _
  have V2 := Lib.hid (VarAt.new w 30 [.int .i64 0, .int .i64 0, .bool false, .string ⟨#[]⟩])
  have HSP : Hid (∀ W : World, Calls Tryz.prog 222 #[.string s, .int .u8 32] W (TextsPost W ((splitL 32 s.data.toList).map mkB))) := Lib.hid (fun W => l01Split_any s 32 W hs)
  go_enter Tryz.func146, Tryz.ntmps146
  go_upto_region 1 with fail
  generalize w.alloc (.cells #[.int .i64 0, .int .i64 0, .bool false, .string ⟨#[]⟩] 30) = w1 at *
  go_wp2_with fail
  refine (HSP.out _).mono ?_
  rintro e w3 ⟨gP, capP, rfl, hp, hd⟩
  replace V2 := Lib.hid (V2.out.kept hd)
  replace hb := hb.trans (hd.mono hb.size)
  clear hd HSP
  by_cases h2 : (splitL 32 s.data.toList).length = 2
  · obtain ⟨place, word, hL⟩ := list_two h2
    have HL := Lib.hid hL
    have hpl : place.length ≤ 1048576 ∧ word.length ≤ 1048576 := by
      have hj := join_split 32 s.data.toList
      rw [hL] at hj
      have e : s.data.toList.length = s.size := by simp
      have := congrArg List.length hj
      simp only [joinL, List.length_append, List.length_cons] at this
      omega
    obtain ⟨hpl, hwl⟩ := hpl
    have HWL : Hid ((mkB word).size ≤ 1048576) := Lib.hid (by rw [mkB_size]; exact hwl)
    clear hwl
    rw [hL] at hp ⊢
    have hP0 := own_at hp rfl (j := 0) (by simp)
    have hP1 := own_at hp rfl (j := 1) (by simp)
    have HP := Lib.hid hp
    simp only [List.map_cons, List.map_nil, List.getElem_cons_zero, List.getElem_cons_succ] at hP0 hP1
    clear h2 hL hp
    obtain ⟨pl, hpl2⟩ : ∃ pl, pl = mkB place := ⟨_, rfl⟩
    have HPD : Hid (pl.data.toList = place) := Lib.hid (by rw [hpl2, mkB_data])
    have hps : pl.size = place.length := by rw [hpl2, mkB_size]
    rw [← hpl2] at hP0
    clear hpl2
    by_cases h3 : 2 ≤ place.length
    · have h3I : ¬ (pl.size : Int) < 2 := by omega
      have hp1 : 0 < pl.size := by omega
      have HN := Lib.hid (spec_long HL.out h3)
      have HPS := Lib.hid hps
      have hpz : pl.size ≤ 1048576 := by omega
      clear hps hpl h3
      go_upto_region 5 with fail
      go_cut [6] (fun v6 wx => ∃ B6 : Nat, v6 = .pointer (some ⟨B6, 0, none⟩) ∧ w.heap.size < B6 ∧ Hid (VarAt wx B6 30 [.int .i64 0, .int .i64 0, .bool (smallB (pl[0].toNat : Int)), .string (mkB word)]) ∧ Hid (VarAt wx w.heap.size 30 [.int .i64 0, .int .i64 0, .bool false, .string ⟨#[]⟩]) ∧ Below w.heap.size w wx)
      case first =>
        have hd : Below w3.heap.size w3 w3.drew := (Below.refl _ _).drew
        have hlt := block_lt hP1
        replace hP1 := cell_kept hP1 hd
        have hdn : Below w3.heap.size w3 (w3.alloc (.cells #[.int .i64 0, .int .i64 0, .bool (smallB (pl[0].toNat : Int)), .string (mkB word)] 30)).drew := ((Below.refl _ _).alloc (Nat.le_refl _) _).drew
        have hlb : w.heap.size < w3.heap.size := V2.out.lt
        have HM : Hid (Hid (VarAt (w3.alloc (.cells #[.int .i64 0, .int .i64 0, .bool (smallB (pl[0].toNat : Int)), .string (mkB word)] 30)).drew w3.heap.size 30 [.int .i64 0, .int .i64 0, .bool (smallB (pl[0].toNat : Int)), .string (mkB word)]) ∧ Hid (VarAt (w3.alloc (.cells #[.int .i64 0, .int .i64 0, .bool (smallB (pl[0].toNat : Int)), .string (mkB word)] 30)).drew w.heap.size 30 [.int .i64 0, .int .i64 0, .bool false, .string ⟨#[]⟩]) ∧ Below w.heap.size w (w3.alloc (.cells #[.int .i64 0, .int .i64 0, .bool (smallB (pl[0].toNat : Int)), .string (mkB word)] 30)).drew) :=
          Lib.hid ⟨Lib.hid ((VarAt.new w3 30 [.int .i64 0, .int .i64 0, .bool (smallB (pl[0].toNat : Int)), .string (mkB word)]).kept ((Below.refl _ _).drew)), Lib.hid (V2.out.kept hdn), hb.trans (hdn.mono hb.size)⟩
        clear hd hP0 HP HN HL HPD hdn V2 hb
        have HSM := Lib.hid (fun W => l01Small_any (pl[0].toNat : Int) W)
        go_region_held3 (fun w' => w'.cell? ⟨gP, 1, none⟩ = some (.string (mkB word)))
          (first | exact hP1 | exact cell_alloc hP1 _ | exact set4_cell (by omega) (cell_alloc hP1 _))
          ((go_at_call 182; refine (HSM.out _).mono ?_; rintro e wq ⟨rfl, rfl⟩))
        all_goals go_wp2_with fail
        all_goals go_meet
        all_goals exact ⟨w3.heap.size, rfl, by omega, HM.out.1, HM.out.2.1, HM.out.2.2⟩
      case rest =>
        clear V2 hb hP1 hP0 HP HL
        obtain ⟨B6, rfl, hne, V6, V2, hb⟩ := hcut
        generalize wc = w4 at *
        clear wc
        have hm : IntKind.i64.wrap ((pl.size : Int) - 1) = ((pl.size - 1 : Nat) : Int) := by rw [IntWalk.i64_in _ (by omega)]; omega
        have hml : pl.size - 1 < pl.size := by omega
        have hdn : smallB (pl[0].toNat : Int) = plDown place := by unfold plDown; rw [← HPD.out, byte_getD pl 0 hp1]
        have HYES : Hid (plDown place = true → plLetter place = pl[0] ∧ plNumber place = (pl.extract 1 pl.size).data.toList) := Lib.hid (fun hd => by
          refine ⟨?_, ?_⟩
          · unfold plLetter; rw [if_pos hd, ← HPD.out, byte_getD pl 0 hp1]
          · unfold plNumber; rw [if_pos hd, cut_back, HPD.out])
        have HNOT : Hid (plDown place = false → plLetter place = pl[pl.size - 1] ∧ plNumber place = (pl.extract 0 (pl.size - 1)).data.toList) := Lib.hid (fun hd => by
          refine ⟨?_, ?_⟩
          · unfold plLetter; rw [if_neg (by rw [hd]; decide), ← HPS.out, ← HPD.out, byte_getD pl _ hml]
          · unfold plNumber; rw [if_neg (by rw [hd]; decide), cut_front, HPD.out])
        rw [hdn] at V6
        clear hdn
        go_upto_region 8 with fail
        have d2 := V6.out.cell (i := 2) rfl
        go_upto_if 45 with fail
        go_cut [7, 8] (fun v7 v8 wx => v7 = .int .u8 ((plLetter place).toNat : Int) ∧ v8 = .string (mkB (plNumber place)) ∧ wx = w4)
        case first =>
          cases hdd : plDown place with
          | false =>
            rw [hdd] at d2
            obtain ⟨e1, e2⟩ := HNOT.out hdd
            have E := Lib.hid (And.intro e1 e2)
            clear HYES HNOT e1 e2 HN HPD
            go_wp2_with fail
            go_meet
            exact ⟨by rw [E.out.1], by rw [E.out.2, mkB_of], rfl⟩
          | true =>
            rw [hdd] at d2
            obtain ⟨e1, e2⟩ := HYES.out hdd
            have E := Lib.hid (And.intro e1 e2)
            clear HYES HNOT e1 e2 HN HPD
            go_wp2_with fail
            go_meet
            exact ⟨by rw [E.out.1], by rw [E.out.2, mkB_of], rfl⟩
        case rest =>
          obtain ⟨rfl, rfl, rfl⟩ := hcut
          have hln : (mkB (plNumber place)).size ≤ 1048576 := by
            rw [mkB_size]
            refine Nat.le_trans ?_ (HPS.out ▸ hpz)
            unfold plNumber
            split
            · rw [List.length_drop]; omega
            · rw [List.length_take]; omega
          have HNUM : Hid (∀ W, Calls Tryz.prog 223 #[.string (mkB (plNumber place))] W (NumPost (specNum (plNumber place)) W)) := Lib.hid (fun W => by have := l01Number_any (mkB (plNumber place)) W hln; rw [mkB_data] at this; exact this)
          have HR : Hid (rawPlay place word = ⟨wrap64 ((specNum (plNumber place)).getD 0 - 1), ((plLetter place).toNat : Int) - 97, plDown place, mkB word⟩) := Lib.hid rfl
          have hcb := (plLetter place).toNat_lt
          generalize rawPlay place word = P at *
          generalize specNum (plNumber place) = o at *
          generalize mkB (plNumber place) = nb at *
          generalize plDown place = dn at *
          generalize plLetter place = c at *
          generalize mkB word = wd at *
          clear HYES HNOT HPD HPS hpz h3I hm hml hp1 hln
          go_wp2_with fail
          refine (HNUM.out _).mono ?_
          rintro e w5 ⟨rfl, hd⟩
          replace V2 := Lib.hid (V2.out.kept hd)
          replace V6 := Lib.hid (V6.out.kept hd)
          replace hb := hb.trans (hd.mono hb.size)
          clear hd HNUM
          obtain ⟨R, hR⟩ : ∃ R, R = wrap64 (o.getD 0 - 1) := ⟨_, rfl⟩
          have hR2 : IntKind.i64.wrap (o.getD 0 - 1) = R := (IntWalk.i64_left _).trans hR.symm
          rw [← hR] at HR
          clear hR
          have hc1 : IntKind.i64.wrap (c.toNat : Int) = (c.toNat : Int) := IntWalk.i64_in _ (by omega)
          have hc2 : IntKind.i64.wrap ((c.toNat : Int) - 97) = (c.toNat : Int) - 97 := IntWalk.i64_in _ (by omega)
          have b0 := V6.out.free 0
          obtain ⟨o1, k1⟩ := V6.out.set 0 (.int .i64 R)
          have b1 := o1.free 1
          obtain ⟨o2, k2⟩ := o1.set 1 (.int .i64 ((c.toNat : Int) - 97))
          have c0 := V6.out.cell (i := 0) rfl
          have c1 := o1.cell (i := 1) rfl
          have GG := grownBy_trans k1 k2
          have W2 := Lib.hid (V2.out.grown GG (by simp; omega))
          have hb2 := hb.grown GG hb.size (fun q h => by cases h; omega)
          have W6 := Lib.hid o2
          clear o1 o2 k1 k2 GG V2 V6 hb
          go_upto_region 14 with fail
          generalize (w5.setCell ⟨B6, 0, none⟩ (.int .i64 R)).setCell ⟨B6, 1, none⟩ (.int .i64 ((c.toNat : Int) - 97)) = w6 at *
          clear b0 b1 c0 c1 d2 hcb hR2 hc1
          generalize (c.toNat : Int) - 97 = C at *
          have hb := hb2
          clear hb2
          have V2 := W2
          clear W2
          have hB6 : B6 < w6.heap.size := W6.out.lt
          cases o with
          | none =>
            have HN := Lib.hid (HN.out.trans (if_neg fun k => by cases k.1))
            go_upto_region 15 with fail
            have t0 := V2.out.cell (i := 0) rfl
            have t1 := V2.out.cell (i := 1) rfl
            have t2 := V2.out.cell (i := 2) rfl
            have t3 := V2.out.cell (i := 3) rfl
            have u0 := V2.out.free 0
            have u1 := V2.out.free 1
            have u2 := V2.out.free 2
            have u3 := V2.out.free 3
            obtain ⟨o0, k0⟩ := V2.out.set 0 (.int .i64 0)
            obtain ⟨o1, k1⟩ := o0.set 1 (.int .i64 0)
            obtain ⟨o2, k2⟩ := o1.set 2 (.bool false)
            obtain ⟨o3, k3⟩ := o2.set 3 (.string ⟨#[]⟩)
            have GG := grownBy_trans (grownBy_trans (grownBy_trans k0 k1) k2) k3
            have hb9 := hb.grown GG hb.size (fun q h => by cases h; omega)
            have H3 := Lib.hid o3
            clear o0 o1 o2 o3 k0 k1 k2 k3 GG
            go_wp2
            have e0 := H3.out.cell (i := 0) (v := .int .i64 0) rfl
            have e1 := H3.out.cell (i := 1) (v := .int .i64 0) rfl
            have e2 := H3.out.cell (i := 2) (v := .bool false) rfl
            have e3 := H3.out.cell (i := 3) (v := .string ⟨#[]⟩) rfl
            refine bodyPost_ret (v := .tuple #[.agg #[.int .i64 0, .int .i64 0, .bool false, .string ⟨#[]⟩], .bool false]) (by simp [results, Tryz.results146, go_sem, e0, e1, e2, e3]) rfl ?_
            exact readOut_no HN.out ⟨rfl, hb9⟩
          | some n =>
            have HPL : Hid (Calls Tryz.prog 142 #[.agg #[.int .i64 R, .int .i64 C, .bool dn, .string wd]] w6 fun e w' => e = .returned (.bool P.plain) ∧ Below w6.heap.size w6 w') := Lib.hid (by
              have e := HR.out
              subst e
              exact l12Plain_any _ _ (Nat.le_trans HWL.out (by decide)))
            have d0 := W6.out.cell (i := 0) rfl
            have d1 := W6.out.cell (i := 1) rfl
            have d2 := W6.out.cell (i := 2) rfl
            have d3 := W6.out.cell (i := 3) rfl
            go_wp2_with fail
            refine HPL.out.mono ?_
            rintro e w7 ⟨rfl, hd⟩
            replace V2 := Lib.hid (V2.out.kept hd)
            replace W6 := Lib.hid (W6.out.kept hd)
            replace hb := hb.trans (hd.mono hb.size)
            clear hd HPL d0 d1 d2 d3
            cases hpp : P.plain with
            | false =>
              have HN := Lib.hid (HN.out.trans (if_neg fun k => by rw [hpp] at k; cases k.2))
              clear hpp
              go_upto_region 15 with fail
              have t0 := V2.out.cell (i := 0) rfl
              have t1 := V2.out.cell (i := 1) rfl
              have t2 := V2.out.cell (i := 2) rfl
              have t3 := V2.out.cell (i := 3) rfl
              have u0 := V2.out.free 0
              have u1 := V2.out.free 1
              have u2 := V2.out.free 2
              have u3 := V2.out.free 3
              obtain ⟨o0, k0⟩ := V2.out.set 0 (.int .i64 0)
              obtain ⟨o1, k1⟩ := o0.set 1 (.int .i64 0)
              obtain ⟨o2, k2⟩ := o1.set 2 (.bool false)
              obtain ⟨o3, k3⟩ := o2.set 3 (.string ⟨#[]⟩)
              have GG := grownBy_trans (grownBy_trans (grownBy_trans k0 k1) k2) k3
              have hb9 := hb.grown GG hb.size (fun q h => by cases h; omega)
              have H3 := Lib.hid o3
              clear o0 o1 o2 o3 k0 k1 k2 k3 GG
              go_wp2
              have e0 := H3.out.cell (i := 0) (v := .int .i64 0) rfl
              have e1 := H3.out.cell (i := 1) (v := .int .i64 0) rfl
              have e2 := H3.out.cell (i := 2) (v := .bool false) rfl
              have e3 := H3.out.cell (i := 3) (v := .string ⟨#[]⟩) rfl
              refine bodyPost_ret (v := .tuple #[.agg #[.int .i64 0, .int .i64 0, .bool false, .string ⟨#[]⟩], .bool false]) (by simp [results, Tryz.results146, go_sem, e0, e1, e2, e3]) rfl ?_
              exact readOut_no HN.out ⟨rfl, hb9⟩
            | true =>
              have HN := Lib.hid (HN.out.trans (if_pos ⟨rfl, hpp⟩))
              clear hpp
              go_upto_region 16 with fail
              have d0 := W6.out.cell (i := 0) rfl
              have d1 := W6.out.cell (i := 1) rfl
              have d2 := W6.out.cell (i := 2) rfl
              have d3 := W6.out.cell (i := 3) rfl
              have t0 := V2.out.cell (i := 0) rfl
              have t1 := V2.out.cell (i := 1) rfl
              have t2 := V2.out.cell (i := 2) rfl
              have t3 := V2.out.cell (i := 3) rfl
              have u0 := V2.out.free 0
              have u1 := V2.out.free 1
              have u2 := V2.out.free 2
              have u3 := V2.out.free 3
              obtain ⟨o0, k0⟩ := V2.out.set 0 (.int .i64 R)
              obtain ⟨o1, k1⟩ := o0.set 1 (.int .i64 C)
              obtain ⟨o2, k2⟩ := o1.set 2 (.bool dn)
              obtain ⟨o3, k3⟩ := o2.set 3 (.string wd)
              have GG := grownBy_trans (grownBy_trans (grownBy_trans k0 k1) k2) k3
              have hb9 := hb.grown GG hb.size (fun q h => by cases h; omega)
              have H3 := Lib.hid o3
              clear o0 o1 o2 o3 k0 k1 k2 k3 GG
              go_wp2
              have e0 := H3.out.cell (i := 0) (v := .int .i64 R) rfl
              have e1 := H3.out.cell (i := 1) (v := .int .i64 C) rfl
              have e2 := H3.out.cell (i := 2) (v := .bool dn) rfl
              have e3 := H3.out.cell (i := 3) (v := .string wd) rfl
              refine bodyPost_ret (v := .tuple #[.agg #[.int .i64 R, .int .i64 C, .bool dn, .string wd], .bool true]) (by simp [results, Tryz.results146, go_sem, e0, e1, e2, e3]) rfl ?_
              exact readOut_yes HN.out ⟨by rw [HR.out], hb9⟩
    · have h3I : (pl.size : Int) < 2 := by omega
      have HN := Lib.hid (spec_short HL.out h3)
      go_upto_region 3 with fail
      have t0 := V2.out.cell (i := 0) rfl
      have t1 := V2.out.cell (i := 1) rfl
      have t2 := V2.out.cell (i := 2) rfl
      have t3 := V2.out.cell (i := 3) rfl
      have u0 := V2.out.free 0
      have u1 := V2.out.free 1
      have u2 := V2.out.free 2
      have u3 := V2.out.free 3
      obtain ⟨o0, k0⟩ := V2.out.set 0 (.int .i64 0)
      obtain ⟨o1, k1⟩ := o0.set 1 (.int .i64 0)
      obtain ⟨o2, k2⟩ := o1.set 2 (.bool false)
      obtain ⟨o3, k3⟩ := o2.set 3 (.string ⟨#[]⟩)
      have GG := grownBy_trans (grownBy_trans (grownBy_trans k0 k1) k2) k3
      have hb9 := hb.grown GG hb.size (fun q h => by cases h; omega)
      have H3 := Lib.hid o3
      clear o0 o1 o2 o3 k0 k1 k2 k3 GG
      go_wp2
      have e0 := H3.out.cell (i := 0) (v := .int .i64 0) rfl
      have e1 := H3.out.cell (i := 1) (v := .int .i64 0) rfl
      have e2 := H3.out.cell (i := 2) (v := .bool false) rfl
      have e3 := H3.out.cell (i := 3) (v := .string ⟨#[]⟩) rfl
      refine bodyPost_ret (v := .tuple #[.agg #[.int .i64 0, .int .i64 0, .bool false, .string ⟨#[]⟩], .bool false]) (by simp [results, Tryz.results146, go_sem, e0, e1, e2, e3]) rfl ?_
      exact readOut_no HN.out ⟨rfl, hb9⟩
  · have HN := Lib.hid (spec_not h2)
    have h2I : (((splitL 32 s.data.toList).map mkB).length : Int) ≠ 2 := by rw [List.length_map]; omega
    generalize ((splitL 32 s.data.toList).map mkB).length = m at *
    go_upto_region 3 with fail
    have t0 := V2.out.cell (i := 0) rfl
    have t1 := V2.out.cell (i := 1) rfl
    have t2 := V2.out.cell (i := 2) rfl
    have t3 := V2.out.cell (i := 3) rfl
    have u0 := V2.out.free 0
    have u1 := V2.out.free 1
    have u2 := V2.out.free 2
    have u3 := V2.out.free 3
    obtain ⟨o0, k0⟩ := V2.out.set 0 (.int .i64 0)
    obtain ⟨o1, k1⟩ := o0.set 1 (.int .i64 0)
    obtain ⟨o2, k2⟩ := o1.set 2 (.bool false)
    obtain ⟨o3, k3⟩ := o2.set 3 (.string ⟨#[]⟩)
    have GG := grownBy_trans (grownBy_trans (grownBy_trans k0 k1) k2) k3
    have hb9 := hb.grown GG hb.size (fun q h => by cases h; omega)
    have H3 := Lib.hid o3
    clear o0 o1 o2 o3 k0 k1 k2 k3 GG
    go_wp2
    have e0 := H3.out.cell (i := 0) (v := .int .i64 0) rfl
    have e1 := H3.out.cell (i := 1) (v := .int .i64 0) rfl
    have e2 := H3.out.cell (i := 2) (v := .bool false) rfl
    have e3 := H3.out.cell (i := 3) (v := .string ⟨#[]⟩) rfl
    refine bodyPost_ret (v := .tuple #[.agg #[.int .i64 0, .int .i64 0, .bool false, .string ⟨#[]⟩], .bool false]) (by simp [results, Tryz.results146, go_sem, e0, e1, e2, e3]) rfl ?_
    exact readOut_no HN.out ⟨rfl, hb9⟩
end Go.Proofs.YtjdcdhhbgijaoaaGreatDoor
