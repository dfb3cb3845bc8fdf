/- Contract: a play is read from a text: the program. For texts of at most 2^20 bytes; Go's tables hold what is laid. -/
import Derived.Test.YtjdcdhhbgijaoaaGreatDoorPtB
import Derived.Test.YtjdcdhhbgijaoaaGreatDoorPtC
import Derived.Test.YtjdcdhhbgijaoaaGreatDoorDoD
import Derived.Test.YtjdcdhhbgijaoaaGreatDoorShq
import Derived.Handy
namespace Go.Proofs.YtjdcdhhbgijaoaaGreatDoor
open Go.ChangeShapes Go.WideShapes Go.ChangeAt Go.RowKit Go.Sort

theorem cutS_of (l : List UInt8) : (Lib.cut l [32]).1 = (cutS l).1 ∧ (Lib.cut l [32]).2.1 = (cutS l).2 := by
  induction l with
  | nil => exact ⟨rfl, rfl⟩
  | cons b l ih =>
    unfold Lib.cut at ih ⊢
    by_cases hb : b = 32
    · subst hb
      have e : Lib.index (32 :: l) [32] = 0 := by unfold Lib.index; exact if_pos (show ((32 : UInt8) == 32 && List.isPrefixOf [] l) = true by simp)
      rw [e, if_pos (by decide), cutS, if_pos rfl]
      exact ⟨rfl, rfl⟩
    · have hp : ([32].isPrefixOf (b :: l)) = false := by
        show ((32 : UInt8) == b && List.isPrefixOf [] l) = false
        rw [beq_eq_false_iff_ne.2 (fun e => hb e.symm)]
        rfl
      have e : Lib.index (b :: l) [32] = if Lib.index l [32] == -1 then -1 else Lib.index l [32] + 1 := by
        conv => lhs; unfold Lib.index
        rw [hp]
        rfl
      rw [cutS, if_neg hb]
      have hge := Lib.index_ge l [32]
      by_cases hi : 0 ≤ Lib.index l [32]
      · obtain ⟨k, hk⟩ : ∃ k : Nat, Lib.index l [32] = k := ⟨(Lib.index l [32]).toNat, by omega⟩
        rw [if_pos hi] at ih
        have e2 : Lib.index (b :: l) [32] = (k : Int) + 1 := by rw [e, hk]; exact if_neg (by first | (simp; done) | (simp; omega))
        rw [e2, if_pos (by omega)]
        rw [hk] at ih
        obtain ⟨i1, i2⟩ := ih
        simp only [Int.toNat_natCast] at i1 i2
        have e1 : ((k : Int) + 1).toNat = k + 1 := by omega
        rw [e1, ← i1, ← i2]
        exact ⟨rfl, rfl⟩
      · have h1 : Lib.index l [32] = -1 := by omega
        rw [if_neg hi] at ih
        rw [e, h1]
        obtain ⟨i1, i2⟩ := ih
        rw [← i1, ← i2]
        exact ⟨rfl, rfl⟩
theorem cutS_len (l : List UInt8) : (cutS l).1.length ≤ l.length ∧ (cutS l).2.length ≤ l.length := by
  induction l with
  | nil => simp [cutS]
  | cons b l ih =>
    unfold cutS
    split
    · simp
    · simp only [List.length_cons]; omega
theorem cutS_any (s : ByteArray) (w : World) (he : Env w) (hs : s.size ≤ 1048576) : Calls Tryz.prog 139 #[.string s, .string ⟨#[32]⟩] w fun e w' => (∃ b, e = .returned (.tuple #[.string (mkB (cutS s.data.toList).1), .string (mkB (cutS s.data.toList).2), .bool b])) ∧ Below w.heap.size w w' := by
  obtain ⟨_, ⟨m, hm⟩, _, _⟩ := he
  refine (Any.strings_Cut { Tryz.laysM145 with } s ⟨#[32]⟩ m w (by omega) hm).mono ?_
  rintro e w' ⟨rfl, k, rfl⟩
  obtain ⟨h1, h2⟩ := cutS_of s.data.toList
  refine ⟨⟨(Lib.cut s.data.toList [32]).2.2, ?_⟩, Drew.below ⟨k, rfl⟩ _⟩
  rw [← h1, ← h2]
  rfl
theorem read_short {l : List UInt8} (h : ¬ 2 ≤ (cutS l).1.length) : readPlay l = none := if_neg fun k => h k.1
theorem play_text_ne {p : Ply} {s : ByteArray} (h0 : s ≠ ⟨#[]⟩) (h : playText p = s) : p.plain = true ∧ p.text = s.data.toList := by
  cases hp : p.plain with
  | false => exact absurd ((text_no hp).symm.trans h).symm h0
  | true => exact ⟨rfl, by rw [← h, text_yes hp, mkB_data]⟩
theorem read_yes {s : ByteArray} (h2 : 2 ≤ (cutS s.data.toList).1.length) (h0 : s ≠ ⟨#[]⟩) (h : playText (rawPlay (cutS s.data.toList).1 (cutS s.data.toList).2) = s) : readPlay s.data.toList = some (rawPlay (cutS s.data.toList).1 (cutS s.data.toList).2) :=
  if_pos ⟨h2, play_text_ne h0 h⟩
theorem read_no {s : ByteArray} (h : playText (rawPlay (cutS s.data.toList).1 (cutS s.data.toList).2) ≠ s) : readPlay s.data.toList = none :=
  if_neg fun k => h (by rw [text_yes k.2.1, k.2.2, mkB_of])
theorem txtNe {t : ByteArray} (he : ¬ t = ⟨#[]⟩) : t.toList.isEmpty = false := by
  cases hh : t.toList.isEmpty with
  | false => rfl
  | true =>
    have h1 := List.isEmpty_iff.1 hh
    rw [ByteArray.toList_eq] at h1
    exact absurd (ByteArray.ext (Array.toList_inj.1 h1)) he
theorem strNe {x y : ByteArray} (h : ¬ x = y) : (x.toList == y.toList) = false :=
  beq_eq_false_iff_ne.2 fun e => h (ByteArray.ext (Array.toList_inj.1 (by rw [← ByteArray.toList_eq, ← ByteArray.toList_eq, e])))
theorem read_nil : readPlay (⟨#[]⟩ : ByteArray).data.toList = none := rfl
set_option maxRecDepth 100000 in
set_option maxHeartbeats 4000000 in
theorem ReadPlay_any (s : ByteArray) (w : World) (hs : s.size ≤ 1048576) (hE : CEnv w) (hN : Env w) : Calls Tryz.prog 57 #[.string s] w (ReadOut (readPlay s.data.toList) w) := by
  have hb : Below w.heap.size w (w.alloc (.cells #[.int .i64 0, .int .i64 0, .bool false, .string ⟨#[]⟩] 30)) := (Below.refl _ _).alloc (Nat.le_refl _) _
  have V2 := Lib.hid (VarAt.new w 30 [.int .i64 0, .int .i64 0, .bool false, .string ⟨#[]⟩])
  have HCU : Hid (∀ W : World, Env W → Calls Tryz.prog 139 #[.string s, .string ⟨#[32]⟩] W fun e w' => (∃ b, e = .returned (.tuple #[.string (mkB (cutS s.data.toList).1), .string (mkB (cutS s.data.toList).2), .bool b])) ∧ Below W.heap.size W w') := Lib.hid (fun W h => cutS_any s W h hs)
  have HE := Lib.hid hE
  have HEN := Lib.hid hN
  clear hE hN
  go_enter Tryz.func57, Tryz.ntmps57
  go_upto_region 1 with fail
  generalize w.alloc (.cells #[.int .i64 0, .int .i64 0, .bool false, .string ⟨#[]⟩] 30) = w1 at *
  go_wp2_with fail
  refine (HCU.out _ (HEN.out.kept hb)).mono ?_
  rintro e w3 ⟨⟨b6, rfl⟩, hd⟩
  replace V2 := Lib.hid (V2.out.kept hd)
  replace hb := hb.trans (hd.mono hb.size)
  clear hd HCU
  obtain ⟨f1, f2⟩ := cutS_len s.data.toList
  have hsl : s.data.toList.length = s.size := Array.length_toList
  have HSH := Lib.hid (read_short (l := s.data.toList))
  have HY := Lib.hid (read_yes (s := s))
  have HNO := Lib.hid (read_no (s := s))
  have HNIL : Hid (s = ⟨#[]⟩ → readPlay s.data.toList = none) := Lib.hid (fun e => by rw [e]; exact read_nil)
  generalize (cutS s.data.toList).1 = place at *
  generalize (cutS s.data.toList).2 = word at *
  generalize readPlay s.data.toList = res at *
  obtain ⟨pl, hpl2⟩ : ∃ pl, pl = mkB place := ⟨_, rfl⟩
  have HPD : Hid (pl.data.toList = place) := Lib.hid (by rw [hpl2, mkB_data])
  have hps : pl.size = place.length := by rw [hpl2, mkB_size]
  have HWL : Hid ((mkB word).size ≤ 1048576) := Lib.hid (by rw [mkB_size]; omega)
  rw [← hpl2]
  clear hpl2
  by_cases h3 : 2 ≤ place.length
  · have h3I : ¬ (pl.size : Int) < 2 := by omega
    have hp1 : 0 < pl.size := by omega
    have HY := Lib.hid (HY.out h3)
    have HPS := Lib.hid hps
    have hpz : pl.size ≤ 1048576 := by omega
    clear hps h3 HSH f1 f2 hsl
    go_wp2_with fail
    refine (small_any (pl[0].toNat : Int) _).mono ?_
    rintro e wq ⟨rfl, rfl⟩
    go_upto_region 5 with fail
    have V6 := Lib.hid (VarAt.new w3 30 [.int .i64 0, .int .i64 0, .bool (smallB (pl[0].toNat : Int)), .string (mkB word)])
    have hlb : w.heap.size < w3.heap.size := V2.out.lt
    have hd : Below w3.heap.size w3 (w3.alloc (.cells #[.int .i64 0, .int .i64 0, .bool (smallB (pl[0].toNat : Int)), .string (mkB word)] 30)) := (Below.refl _ _).alloc (Nat.le_refl _) _
    replace V2 := Lib.hid (V2.out.kept hd)
    replace hb := hb.trans (hd.mono hb.size)
    clear hd
    generalize w3.alloc (.cells #[.int .i64 0, .int .i64 0, .bool (smallB (pl[0].toNat : Int)), .string (mkB word)] 30) = w4 at *
    generalize w3.heap.size = B6 at *
    clear w3
    have hm : IntKind.i64.wrap ((pl.size : Int) - 1) = ((pl.size - 1 : Nat) : Int) := by rw [IntWalk.i64_in _ (by omega)]; omega
    have hml : pl.size - 1 < pl.size := by omega
    have hdn : smallB (pl[0].toNat : Int) = plDown place := by unfold plDown; rw [← HPD.out, byte_getD pl 0 hp1]
    have HYES : Hid (plDown place = true → plLetter place = pl[0] ∧ plNumber place = (pl.extract 1 pl.size).data.toList) := Lib.hid (fun hd => by
      refine ⟨?_, ?_⟩
      · unfold plLetter; rw [if_pos hd, ← HPD.out, byte_getD pl 0 hp1]
      · unfold plNumber; rw [if_pos hd, cut_back, HPD.out])
    have HNOT : Hid (plDown place = false → plLetter place = pl[pl.size - 1] ∧ plNumber place = (pl.extract 0 (pl.size - 1)).data.toList) := Lib.hid (fun hd => by
      refine ⟨?_, ?_⟩
      · unfold plLetter; rw [if_neg (by rw [hd]; decide), ← HPS.out, ← HPD.out, byte_getD pl _ hml]
      · unfold plNumber; rw [if_neg (by rw [hd]; decide), cut_front, HPD.out])
    rw [hdn] at V6
    clear hdn
    go_quiet (fail)
    replace V2 := Lib.hid (V2.out.kept (Drew.below ⟨nq, rfl⟩ _))
    replace V6 := Lib.hid (V6.out.kept (Drew.below ⟨nq, rfl⟩ _))
    replace hb := hb.trans (Drew.below ⟨nq, rfl⟩ _)
    generalize w4.drewN nq = w5 at *
    go_upto_region 6 with fail
    have d2 := V6.out.cell (i := 2) rfl
    go_upto_if 38 with fail
    go_cut [8, 9] (fun v8 v9 wx => v8 = .string (mkB (plNumber place)) ∧ v9 = .int .u8 ((plLetter place).toNat : Int) ∧ Below w5.heap.size w5 wx)
    case first =>
      cases hdd : plDown place with
      | false =>
        rw [hdd] at d2
        obtain ⟨e1, e2⟩ := HNOT.out hdd
        have E := Lib.hid (And.intro e1 e2)
        clear HYES HNOT e1 e2 HPD
        go_wp2_with fail
        go_meet
        exact ⟨by rw [E.out.2, mkB_of], by rw [E.out.1], Below.refl _ _⟩
      | true =>
        rw [hdd] at d2
        obtain ⟨e1, e2⟩ := HYES.out hdd
        have E := Lib.hid (And.intro e1 e2)
        clear HYES HNOT e1 e2 HPD
        go_upto_region 7 with fail
        go_quiet (fail)
        go_wp2_with fail
        go_meet
        exact ⟨by rw [E.out.2, mkB_of], by rw [E.out.1], Drew.below ⟨_, rfl⟩ _⟩
    case rest =>
      obtain ⟨rfl, rfl, hd⟩ := hcut
      replace V2 := Lib.hid (V2.out.kept hd)
      replace V6 := Lib.hid (V6.out.kept hd)
      replace hb := hb.trans (hd.mono hb.size)
      clear hd d2
      have hln : (mkB (plNumber place)).size ≤ 1048576 := by
        rw [mkB_size]
        refine Nat.le_trans ?_ (HPS.out ▸ hpz)
        unfold plNumber
        split
        · rw [List.length_drop]; omega
        · rw [List.length_take]; omega
      have HNUM : Hid (∀ W, Env W → Calls Tryz.prog 141 #[.string (mkB (plNumber place))] W (NumPost (specNum (plNumber place)) W)) := Lib.hid (fun W h => by have := ReadDecimal_any (mkB (plNumber place)) W h hln; rw [mkB_data, readDec_eq] at this; exact this)
      have HR : Hid (rawPlay place word = ⟨wrap64 ((specNum (plNumber place)).getD 0 - 1), ((plLetter place).toNat : Int) - 97, plDown place, mkB word⟩) := Lib.hid rfl
      have hcb := (plLetter place).toNat_lt
      generalize rawPlay place word = P at *
      generalize specNum (plNumber place) = o at *
      generalize mkB (plNumber place) = nb at *
      generalize plDown place = dn at *
      generalize plLetter place = c at *
      generalize mkB word = wd at *
      clear HYES HNOT HPD HPS hpz h3I hm hml hp1 hln
      go_wp2_with fail
      refine (HNUM.out _ (HEN.out.kept hb)).mono ?_
      rintro e w6 ⟨rfl, hd⟩
      replace V2 := Lib.hid (V2.out.kept hd)
      replace V6 := Lib.hid (V6.out.kept hd)
      replace hb := hb.trans (hd.mono hb.size)
      clear hd HNUM
      obtain ⟨R, hR⟩ : ∃ R, R = wrap64 (o.getD 0 - 1) := ⟨_, rfl⟩
      have hR2 : IntKind.i64.wrap (o.getD 0 - 1) = R := (IntWalk.i64_left _).trans hR.symm
      rw [← hR] at HR
      clear hR
      have hc1 : IntKind.i64.wrap (c.toNat : Int) = (c.toNat : Int) := IntWalk.i64_in _ (by omega)
      have hc2 : IntKind.i64.wrap ((c.toNat : Int) - 97) = (c.toNat : Int) - 97 := IntWalk.i64_in _ (by omega)
      have b0 := V6.out.free 0
      obtain ⟨o1, k1⟩ := V6.out.set 0 (.int .i64 R)
      have b1 := o1.free 1
      obtain ⟨o2, k2⟩ := o1.set 1 (.int .i64 ((c.toNat : Int) - 97))
      have c0 := V6.out.cell (i := 0) rfl
      have c1 := o1.cell (i := 1) rfl
      have GG := grownBy_trans k1 k2
      have W2 := Lib.hid (V2.out.grown GG (by simp; omega))
      have hb2 := hb.grown GG hb.size (fun q h => by cases h; omega)
      have W6 := Lib.hid o2
      clear o1 o2 k1 k2 GG V2 V6 hb
      go_upto_region 10 with fail
      generalize (w6.setCell ⟨B6, 0, none⟩ (.int .i64 R)).setCell ⟨B6, 1, none⟩ (.int .i64 ((c.toNat : Int) - 97)) = w7 at *
      clear b0 b1 c0 c1 hcb hR2 hc1
      generalize (c.toNat : Int) - 97 = C at *
      have hb := hb2
      have V2 := W2
      clear W2 hb2
      have hB6 : B6 < w7.heap.size := W6.out.lt
      have hPT : Hid (Calls Tryz.prog 56 #[.agg #[.int .i64 R, .int .i64 C, .bool dn, .string wd]] w7 fun e w' => e = .returned (.string (playText P)) ∧ Below w7.heap.size w7 w') := Lib.hid (by
        have e := HR.out
        subst e
        exact PlayText_any _ _ HWL.out (HE.out.kept hb) (HEN.out.kept hb).1)
      have d0 := W6.out.cell (i := 0) rfl
      have d1 := W6.out.cell (i := 1) rfl
      have d2 := W6.out.cell (i := 2) rfl
      have d3 := W6.out.cell (i := 3) rfl
      by_cases hs0 : s = ⟨#[]⟩
      · have HN : Hid (res = none) := Lib.hid (HNIL.out hs0)
        clear HY HNO hPT HR HE HEN HNIL
        subst hs0
        go_upto_region 11 with fail
        have t0 := V2.out.cell (i := 0) rfl
        have t1 := V2.out.cell (i := 1) rfl
        have t2 := V2.out.cell (i := 2) rfl
        have t3 := V2.out.cell (i := 3) rfl
        have u0 := V2.out.free 0
        have u1 := V2.out.free 1
        have u2 := V2.out.free 2
        have u3 := V2.out.free 3
        obtain ⟨o0, k0⟩ := V2.out.set 0 (.int .i64 0)
        obtain ⟨o1, k1⟩ := o0.set 1 (.int .i64 0)
        obtain ⟨o2, k2⟩ := o1.set 2 (.bool false)
        obtain ⟨o3, k3⟩ := o2.set 3 (.string ⟨#[]⟩)
        have GG := grownBy_trans (grownBy_trans (grownBy_trans k0 k1) k2) k3
        have hb9 := hb.grown GG hb.size (fun q h => by cases h; omega)
        have H3 := Lib.hid o3
        clear o0 o1 o2 o3 k0 k1 k2 k3 GG
        go_wp2
        have e0 := H3.out.cell (i := 0) (v := .int .i64 0) rfl
        have e1 := H3.out.cell (i := 1) (v := .int .i64 0) rfl
        have e2 := H3.out.cell (i := 2) (v := .bool false) rfl
        have e3 := H3.out.cell (i := 3) (v := .string ⟨#[]⟩) rfl
        refine bodyPost_ret (v := .tuple #[.agg #[.int .i64 0, .int .i64 0, .bool false, .string ⟨#[]⟩], .bool false]) (by simp [results, Tryz.results57, go_sem, e0, e1, e2, e3]) rfl ?_
        exact readOut_no HN.out ⟨rfl, hb9⟩
      · have HY := Lib.hid (HY.out hs0)
        have hs1 := txtNe hs0
        go_wp2_with fail
        refine hPT.out.mono ?_
        rintro e w8 ⟨rfl, hd⟩
        replace V2 := Lib.hid (V2.out.kept hd)
        replace W6 := Lib.hid (W6.out.kept hd)
        replace hb := hb.trans (hd.mono hb.size)
        clear hd hPT d0 d1 d2 d3 HE HEN HNIL
        by_cases hpe : playText P = s
        · have HN := Lib.hid (HY.out hpe)
          clear HY HNO
          rw [hpe]
          clear hpe
          go_upto_region 12 with fail
          have d0 := W6.out.cell (i := 0) rfl
          have d1 := W6.out.cell (i := 1) rfl
          have d2 := W6.out.cell (i := 2) rfl
          have d3 := W6.out.cell (i := 3) rfl
          have t0 := V2.out.cell (i := 0) rfl
          have t1 := V2.out.cell (i := 1) rfl
          have t2 := V2.out.cell (i := 2) rfl
          have t3 := V2.out.cell (i := 3) rfl
          have u0 := V2.out.free 0
          have u1 := V2.out.free 1
          have u2 := V2.out.free 2
          have u3 := V2.out.free 3
          obtain ⟨o0, k0⟩ := V2.out.set 0 (.int .i64 R)
          obtain ⟨o1, k1⟩ := o0.set 1 (.int .i64 C)
          obtain ⟨o2, k2⟩ := o1.set 2 (.bool dn)
          obtain ⟨o3, k3⟩ := o2.set 3 (.string wd)
          have GG := grownBy_trans (grownBy_trans (grownBy_trans k0 k1) k2) k3
          have hb9 := hb.grown GG hb.size (fun q h => by cases h; omega)
          have H3 := Lib.hid o3
          clear o0 o1 o2 o3 k0 k1 k2 k3 GG
          go_wp2
          have e0 := H3.out.cell (i := 0) (v := .int .i64 R) rfl
          have e1 := H3.out.cell (i := 1) (v := .int .i64 C) rfl
          have e2 := H3.out.cell (i := 2) (v := .bool dn) rfl
          have e3 := H3.out.cell (i := 3) (v := .string wd) rfl
          refine bodyPost_ret (v := .tuple #[.agg #[.int .i64 R, .int .i64 C, .bool dn, .string wd], .bool true]) (by simp [results, Tryz.results57, go_sem, e0, e1, e2, e3]) rfl ?_
          exact readOut_yes HN.out ⟨by rw [HR.out], hb9⟩
        · have HN := Lib.hid (HNO.out hpe)
          clear HY HNO HR
          generalize playText P = pt at *
          have hpe1 := strNe hpe
          go_upto_region 11 with fail
          have t0 := V2.out.cell (i := 0) rfl
          have t1 := V2.out.cell (i := 1) rfl
          have t2 := V2.out.cell (i := 2) rfl
          have t3 := V2.out.cell (i := 3) rfl
          have u0 := V2.out.free 0
          have u1 := V2.out.free 1
          have u2 := V2.out.free 2
          have u3 := V2.out.free 3
          obtain ⟨o0, k0⟩ := V2.out.set 0 (.int .i64 0)
          obtain ⟨o1, k1⟩ := o0.set 1 (.int .i64 0)
          obtain ⟨o2, k2⟩ := o1.set 2 (.bool false)
          obtain ⟨o3, k3⟩ := o2.set 3 (.string ⟨#[]⟩)
          have GG := grownBy_trans (grownBy_trans (grownBy_trans k0 k1) k2) k3
          have hb9 := hb.grown GG hb.size (fun q h => by cases h; omega)
          have H3 := Lib.hid o3
          clear o0 o1 o2 o3 k0 k1 k2 k3 GG
          go_wp2
          have e0 := H3.out.cell (i := 0) (v := .int .i64 0) rfl
          have e1 := H3.out.cell (i := 1) (v := .int .i64 0) rfl
          have e2 := H3.out.cell (i := 2) (v := .bool false) rfl
          have e3 := H3.out.cell (i := 3) (v := .string ⟨#[]⟩) rfl
          refine bodyPost_ret (v := .tuple #[.agg #[.int .i64 0, .int .i64 0, .bool false, .string ⟨#[]⟩], .bool false]) (by simp [results, Tryz.results57, go_sem, e0, e1, e2, e3]) rfl ?_
          exact readOut_no HN.out ⟨rfl, hb9⟩
  · have h3I : (pl.size : Int) < 2 := by omega
    have HN := Lib.hid (HSH.out h3)
    clear HSH HY HNO
    go_upto_region 3 with fail
    have t0 := V2.out.cell (i := 0) rfl
    have t1 := V2.out.cell (i := 1) rfl
    have t2 := V2.out.cell (i := 2) rfl
    have t3 := V2.out.cell (i := 3) rfl
    have u0 := V2.out.free 0
    have u1 := V2.out.free 1
    have u2 := V2.out.free 2
    have u3 := V2.out.free 3
    obtain ⟨o0, k0⟩ := V2.out.set 0 (.int .i64 0)
    obtain ⟨o1, k1⟩ := o0.set 1 (.int .i64 0)
    obtain ⟨o2, k2⟩ := o1.set 2 (.bool false)
    obtain ⟨o3, k3⟩ := o2.set 3 (.string ⟨#[]⟩)
    have GG := grownBy_trans (grownBy_trans (grownBy_trans k0 k1) k2) k3
    have hb9 := hb.grown GG hb.size (fun q h => by cases h; omega)
    have H3 := Lib.hid o3
    clear o0 o1 o2 o3 k0 k1 k2 k3 GG
    go_wp2
    have e0 := H3.out.cell (i := 0) (v := .int .i64 0) rfl
    have e1 := H3.out.cell (i := 1) (v := .int .i64 0) rfl
    have e2 := H3.out.cell (i := 2) (v := .bool false) rfl
    have e3 := H3.out.cell (i := 3) (v := .string ⟨#[]⟩) rfl
    refine bodyPost_ret (v := .tuple #[.agg #[.int .i64 0, .int .i64 0, .bool false, .string ⟨#[]⟩], .bool false]) (by simp [results, Tryz.results57, go_sem, e0, e1, e2, e3]) rfl ?_
    exact readOut_no HN.out ⟨rfl, hb9⟩
end Go.Proofs.YtjdcdhhbgijaoaaGreatDoor
