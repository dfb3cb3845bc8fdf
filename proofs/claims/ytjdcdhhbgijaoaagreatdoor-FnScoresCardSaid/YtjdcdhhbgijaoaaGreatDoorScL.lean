/- Contracts: the program's premiums, the scores of letters, the factors of words. For valid boards and tile sets. · Contracts: the program's premiums, the factor of a word, the premiums that a play uses. For valid boards and plays. · Contract: the program's scores of the letters of a play. For valid boards, plays and tile sets. · Contract: whether the program takes the arguments of a score. Go's tables of unicode and unicode/utf8 hold what is laid (CEnv). · Plain: the squares of a word across, their letters and their scores, on the board after a play. No condition. · Contract: the program's scores of the words that a play forms. For valid boards, plays and tile sets. · Contracts: the program's ScorePlay and ScoreParts. Go's tables of unicode and unicode/utf8 hold what is laid (CEnv). -/
import Derived.Test.YtjdcdhhbgijaoaaGreatDoorScE
import Derived.Test.YtjdcdhhbgijaoaaGreatDoorTiC
import Derived.Test.YtjdcdhhbgijaoaaGreatDoorPlbH
import Derived.Maps.OwnSet
import Derived.Test.YtjdcdhhbgijaoaaGreatDoorVar
namespace Go.Proofs.YtjdcdhhbgijaoaaGreatDoor
open Go.ChangeShapes Go.WideShapes Go.ChangeAt Go.RowKit Go.Sort Go.Maps

/-- how the functions of the map of factors read: by their numbers -/
def facR (v : Value) : Option (DataW Unit × List MemPlace) :=
  match v with
  | .func (.func n) a c => if a.size = 0 ∧ c.size = 0 then some (.lit (.int .i64 (n : Int)), []) else some (.lit (.bool false), [])
  | _ => some (.lit (.bool false), [])
theorem facR_mk (n : Nat) : facR (.func (.func n) #[] #[]) = some (.lit (.int .i64 (n : Int)), []) := by simp [facR]
theorem facR_inv {v : Value} {n : Nat} {ps : List MemPlace} (h : facR v = some (.lit (.int .i64 (n : Int)), ps)) : v = .func (.func n) #[] #[] := by
  unfold facR at h
  split at h
  · split at h
    · rename_i m a c hs
      obtain ⟨h1, h2⟩ := hs
      simp only [Option.some.injEq, Prod.mk.injEq, DataW.lit.injEq, Lit.int.injEq, true_and] at h
      have hm : m = n := Int.ofNat.inj h.1
      rw [hm, Array.eq_empty_of_size_eq_zero h1, Array.eq_empty_of_size_eq_zero h2]
    · simp at h
  · simp at h
theorem key8 : Keyed Tryz.prog 5 := int_keyed Tryz.underlying5
def facD : DataW Unit := ((DataW.map []).put (.int .u8 50) (.lit (.int .i64 (274 : Nat)))).put (.int .u8 51) (.lit (.int .i64 (275 : Nat)))
set_option maxHeartbeats 1000000 in
theorem letterFactors_any (w : World) : Calls Tryz.prog 244 #[] w fun e w' => ∃ g, e = .returned (.map (some g)) ∧ w'.ownsMap Tryz.prog 5 facR g 2 facD ∧ Below w.heap.size w w' := by
  have hk2 : keyOf Tryz.prog 5 (.int .u8 50) = some (.int .u8 50) := keyOf_int_mk Tryz.underlying5 (by decide)
  have hk3 : keyOf Tryz.prog 5 (.int .u8 51) = some (.int .u8 51) := keyOf_int_mk Tryz.underlying5 (by decide)
  have r0 : (Instr.makeMap 227 none).run Tryz.prog w = .ok (.map (some w.heap.size)) (w.alloc (.map #[] 0)) := run_makeMap _ _
  obtain ⟨wa, r1, o1, g1⟩ := (World.ownsMap_made w Tryz.prog 5 facR).update key8 Tryz.underlying227 (by decide) hk2 (facR_mk 274)
  obtain ⟨wb, r2, o2, g2⟩ := o1.update key8 Tryz.underlying227 (by decide) hk3 (facR_mk 275)
  have hb0 : Below w.heap.size w (w.alloc (.map #[] 0)) := (Below.refl _ _).alloc (Nat.le_refl _) _
  have hb : Below w.heap.size w wb := (hb0.grown g1 hb0.size (fun q h => by cases h; exact Nat.le_refl _)).grown g2 (Nat.le_trans hb0.size g1.size) (fun q h => by cases h; exact Nat.le_refl _)
  have HO := Lib.hid o2
  clear o1 o2 g1 g2 hk2 hk3 hb0
  go_enter Tryz.func244, Tryz.ntmps244
  go_wp2
  go_ret
  exact ⟨_, rfl, HO.out, hb⟩
theorem double_any (v : Int) (w : World) (hv : 0 ≤ v ∧ v ≤ 20) : Calls Tryz.prog 274 #[.int .i64 v] w fun e w' => e = .returned (.int .i64 (2 * v)) ∧ w = w' := by
  have hw : IntKind.i64.wrap (2 * v) = 2 * v := IntWalk.i64_in _ (by omega)
  go_enter Tryz.func274, Tryz.ntmps274
  go_wp2
  go_ret
  exact ⟨rfl, rfl⟩
theorem triple_any (v : Int) (w : World) (hv : 0 ≤ v ∧ v ≤ 20) : Calls Tryz.prog 275 #[.int .i64 v] w fun e w' => e = .returned (.int .i64 (3 * v)) ∧ w = w' := by
  have hw : IntKind.i64.wrap (3 * v) = 3 * v := IntWalk.i64_in _ (by omega)
  go_enter Tryz.func275, Tryz.ntmps275
  go_wp2
  go_ret
  exact ⟨rfl, rfl⟩
/-- what the map of factors has at a premium -/
theorem fac_look {w : World} {g : Nat} (h : w.ownsMap Tryz.prog 5 facR g 2 facD) (c : UInt8) : ∃ v ps, (Instr.lookup 227 (.map (some g)) (.int .u8 (c.toNat : Int)) true).run Tryz.prog w = .ok (.tuple #[v, .bool (Maps.has facD (.int .u8 (c.toNat : Int)))]) w ∧ facR v = some (facD.atKey (.int .u8 (c.toNat : Int)) (.lit (.bool false)), ps) := by
  have hc : c.toNat < 256 := c.toNat_lt
  have hk : keyOf Tryz.prog 5 (.int .u8 (c.toNat : Int)) = some (.int .u8 (c.toNat : Int)) := keyOf_int_mk Tryz.underlying5 (Go.WalkArith.wf_u8 (by omega))
  have hz : (zeroValue 121).run Tryz.prog w = .ok .nilFunc w := by kernel_rfl
  exact h.look_ok key8 Tryz.underlying227 hz (show facR .nilFunc = some (.lit (.bool false), []) from rfl) hk
theorem facD_eq : facD = .map [(.int .u8 50, .lit (.int .i64 (274 : Nat))), (.int .u8 51, .lit (.int .i64 (275 : Nat)))] := by kernel_rfl
theorem fac_2 {c : UInt8} (h : c = 50) : Maps.has facD (.int .u8 (c.toNat : Int)) = true ∧ facD.atKey (.int .u8 (c.toNat : Int)) (.lit (.bool false)) = .lit (.int .i64 (274 : Nat)) := by subst h; rw [facD_eq]; exact ⟨by decide, by rfl⟩
theorem fac_3 {c : UInt8} (h : c = 51) : Maps.has facD (.int .u8 (c.toNat : Int)) = true ∧ facD.atKey (.int .u8 (c.toNat : Int)) (.lit (.bool false)) = .lit (.int .i64 (275 : Nat)) := by subst h; rw [facD_eq]; exact ⟨by decide, by rfl⟩
theorem fac_1 {c : UInt8} (h2 : c ≠ 50) (h3 : c ≠ 51) : Maps.has facD (.int .u8 (c.toNat : Int)) = false := by
  rw [facD_eq]
  have e2 : ¬ (50 : Int) = (c.toNat : Int) := fun e => h2 (UInt8.toNat_inj.1 (show c.toNat = 50 by omega))
  have e3 : ¬ (51 : Int) = (c.toNat : Int) := fun e => h3 (UInt8.toNat_inj.1 (show c.toNat = 51 by omega))
  simp [Maps.has, Lit.sameKey, e2, e3]
set_option maxHeartbeats 2000000 in
theorem letterScore_any (x : Tls) (q : TlA) (y pr : UInt8) (w : World) (ha : x.At q w) (hx : x.Good) :
    Calls Tryz.prog 184 #[.agg #[.string x.letters, .slice q.values.a x.values.length q.values.c, .slice q.counts.a x.counts.length q.counts.c, .int .i64 x.blanks], .int .u8 (y.toNat : Int), .int .u8 (pr.toNat : Int)] w fun e w' => e = .returned (.int .i64 (letS (x.val y) pr)) ∧ Below w.heap.size w w' := by
  have hb : Below w.heap.size w (w.alloc (.cells #[.string x.letters, .slice q.values.a x.values.length q.values.c, .slice q.counts.a x.counts.length q.counts.c, .int .i64 x.blanks] 44)) := (Below.refl _ _).alloc (Nat.le_refl _) _
  have HT := Lib.hid (TAt.new w x q 44 ha)
  have HVO : Hid (∀ W, x.At q W → Calls Tryz.prog 185 #[.agg #[.string x.letters, .slice q.values.a x.values.length q.values.c, .slice q.counts.a x.counts.length q.counts.c, .int .i64 x.blanks], .int .u8 (y.toNat : Int)] W fun e w' => e = .returned (.int .i64 (x.val y)) ∧ Below W.heap.size W w') := Lib.hid (fun W h => valueOf_any x q y W h hx)
  have hv := hx.val_range y
  clear ha hx
  generalize x.val y = v at *
  go_enter Tryz.func184, Tryz.ntmps184
  go_upto_region 1 with fail
  generalize w.alloc (.cells #[.string x.letters, .slice q.values.a x.values.length q.values.c, .slice q.counts.a x.counts.length q.counts.c, .int .i64 x.blanks] 44) = w1 at *
  obtain ⟨c0, c1, c2, c3⟩ := HT.out.1
  go_wp2_with fail
  refine (HVO.out _ HT.out.2).mono ?_
  rintro e w2 ⟨rfl, hd⟩
  replace hb := hb.trans (hd.mono hb.size)
  clear hd c0 c1 c2 c3 HT HVO
  go_wp2_with fail
  refine (letterFactors_any _).mono ?_
  rintro e w3 ⟨g, rfl, ho, hd⟩
  replace hb := hb.trans (hd.mono hb.size)
  clear hd
  obtain ⟨fv, ps, hrun, hfr⟩ := fac_look ho pr
  clear ho
  by_cases h2 : pr = 50
  · obtain ⟨e1, e2⟩ := fac_2 h2
    rw [e2] at hfr
    obtain rfl := facR_inv hfr
    rw [e1] at hrun
    have HE : Hid (letS v pr = 2 * v) := Lib.hid (by unfold letS; rw [if_pos h2])
    clear hfr e1 e2 h2
    go_wp2_with fail
    refine (double_any v _ hv).mono ?_
    rintro e w4 ⟨rfl, rfl⟩
    go_wp2
    go_ret
    exact ⟨by rw [HE.out]; rfl, hb⟩
  · by_cases h3 : pr = 51
    · obtain ⟨e1, e2⟩ := fac_3 h3
      rw [e2] at hfr
      obtain rfl := facR_inv hfr
      rw [e1] at hrun
      have HE : Hid (letS v pr = 3 * v) := Lib.hid (by unfold letS; rw [if_neg h2, if_pos h3])
      clear hfr e1 e2 h2 h3
      go_wp2_with fail
      refine (triple_any v _ hv).mono ?_
      rintro e w4 ⟨rfl, rfl⟩
      go_wp2
      go_ret
      exact ⟨by rw [HE.out]; rfl, hb⟩
    · rw [fac_1 h2 h3] at hrun
      have HE : Hid (letS v pr = v) := Lib.hid (by unfold letS; rw [if_neg h2, if_neg h3])
      clear hfr h2 h3
      go_wp2
      go_ret
      exact ⟨by rw [HE.out]; rfl, hb⟩
end Go.Proofs.YtjdcdhhbgijaoaaGreatDoor

namespace Go.Proofs.YtjdcdhhbgijaoaaGreatDoor
open Go.ChangeShapes Go.WideShapes Go.ChangeAt Go.RowKit Go.Sort

set_option maxHeartbeats 2000000 in
theorem premium_any (b : Brd) (n : Nat) (r c : Int) (w : World) (hb0 : b.Good n) (hi : b.inB r c = true) :
    Calls Tryz.prog 183 #[.agg #[.int .i64 b.size, .string b.premium, .string b.cells], .int .i64 r, .int .i64 c] w fun e w' => e = .returned (.int .u8 ((b.prm r c).toNat : Int)) ∧ Below w.heap.size w w' := by
  obtain ⟨i, j, q, rfl, rfl, hq, hqi, hl, hlt, hin, hjn, _⟩ := hb0.place hi
  have hl2 : q + j < b.premium.size := by rw [hb0.prem, ← hb0.cells]; exact hl
  have HX := Lib.hid (hb0.prm_in hq hl2)
  have h15 := hb0.hi
  rw [hb0.size]
  clear hb0 hi hq hl
  have hb : Below w.heap.size w (w.alloc (.cells #[.int .i64 n, .string b.premium, .string b.cells] 25)) := (Below.refl _ _).alloc (Nat.le_refl _) _
  have w1 : IntKind.i64.wrap (q : Int) = q := IntWalk.i64_in _ (by omega)
  have w2 : IntKind.i64.wrap ((q : Int) + (j : Int)) = (q : Int) + j := IntWalk.i64_in _ (by omega)
  have w3 : ((q : Int) + (j : Int)).toNat = q + j := by omega
  have w4 : (0 : Int) ≤ (q : Int) + (j : Int) := by omega
  have w5 : (q : Int) + (j : Int) < (b.premium.size : Int) := by omega
  go_enter Tryz.func183, Tryz.ntmps183
  go_wp2
  go_ret
  exact ⟨by rw [HX.out]; rfl, hb⟩
/-- the factor of a word by its premiums -/
def facL (ps : List UInt8) : Int := (ps.map facP).foldl (fun a c => a * c) 1
theorem facL_snoc (ps : List UInt8) (c : UInt8) : facL (ps ++ [c]) = facL ps * facP c := by
  unfold facL
  rw [List.map_append, List.foldl_append]
  rfl
theorem facL_pow : ∀ ps : List UInt8, 1 ≤ facL ps.reverse ∧ facL ps.reverse ≤ 3 ^ ps.length
  | [] => by simp [facL]
  | i :: is => by
    have ih := facL_pow is
    have h1 := facP_range i
    rw [List.reverse_cons, facL_snoc, List.length_cons, Int.pow_succ]
    refine ⟨?_, ?_⟩
    · have := Int.mul_le_mul ih.1 h1.1 (by omega) (by omega)
      omega
    · exact Int.mul_le_mul ih.2 h1.2 (by omega) (by omega)
theorem facL_le {ps : List UInt8} (h : ps.length ≤ 12) : 1 ≤ facL ps ∧ facL ps ≤ 531441 := by
  have h1 := facL_pow ps.reverse
  rw [List.reverse_reverse, List.length_reverse] at h1
  refine ⟨h1.1, ?_⟩
  have h2 : (3 : Int) ^ ps.length ≤ 3 ^ 12 := by
    have h3 : (3 : Nat) ^ ps.length ≤ 3 ^ 12 := Nat.pow_le_pow_right (by omega) h
    exact_mod_cast h3
  have h4 : (3 : Int) ^ 12 = 531441 := by decide
  omega
theorem facL_fresh (G : Fl) (R C : Int) (is : List Nat) : facL (is.map fun i : Nat => G R (C + i)) = facA G R C is := by
  unfold facL facA
  rw [List.map_map]
  rfl
theorem take_u8 {ps : List UInt8} {k : Nat} (h : k < ps.length) : ps.take (k + 1) = ps.take k ++ [ps[k]] := List.take_succ_eq_append_getElem h
set_option maxRecDepth 100000 in
set_option maxHeartbeats 2000000 in
theorem wordFactor_any (ps : List UInt8) (a : Option Addr) (cap : Nat) (w : World) (hm : SliceAt w 1 U8.enc a ps) (hl : ps.length ≤ 12) :
    Calls Tryz.prog 95 #[.slice a ps.length cap] w fun e w' => e = .returned (.int .i64 (facL ps)) ∧ Below w.heap.size w w' := by
  have HM := Lib.hid hm
  clear hm
  go_enter Tryz.func95, Tryz.ntmps95
  go_wp2_with fail
  go_loopw [2, 7] (fun tv iv wr => ∃ (k : Nat) (t : Int), k ≤ ps.length ∧ iv = .int .i64 k ∧ tv = .int .i64 t ∧ 1 ≤ t ∧ t ≤ 531441 ∧ Hid (t = facL (ps.take k)) ∧ w = wr) (fun _ iv _ => ps.length - (intOf iv).toNat)
  case atStart => exact ⟨0, 1, Nat.zero_le _, rfl, rfl, by omega, by omega, Lib.hid rfl, by trivial⟩
  case round =>
    obtain ⟨k, t, hk, rfl, rfl, ht0, ht1, HT, hw⟩ := hrel
    subst hw
    by_cases hlt : k < ps.length
    · obtain ⟨bb, oo, rfl, hc⟩ := HM.out.open hlt
      have c0 := hc.at0 hlt (v := .int .u8 (ps[k].toNat : Int)) rfl
      rw [Nat.mul_one] at c0
      have HT2 : Hid (facL (ps.take (k + 1)) = t * facP ps[k]) := Lib.hid (by rw [take_u8 hlt, facL_snoc, HT.out])
      have hr2 := facL_le (ps := ps.take (k + 1)) (by rw [List.length_take]; omega)
      rw [HT2.out] at hr2
      clear hc HT
      generalize ps[k] = c at *
      cases e1 : ((c.toNat : Int) == 100) with
      | true =>
        have HE := Lib.hid (facP_2 e1)
        rw [HE.out] at hr2
        have HT3 : Hid (t * 2 = facL (ps.take (k + 1))) := Lib.hid (by rw [HT2.out, HE.out])
        have hw5 : IntKind.i64.wrap (t * 2) = t * 2 := IntWalk.i64_in _ (by omega)
        clear HT2 HE
        go_wp2
        go_roundw
        case rel => exact ⟨k + 1, t * 2, by omega, by go_num, rfl, hr2.1, hr2.2, HT3, by trivial⟩
        case measure => simp [intOf]; omega
      | false =>
        cases e2 : ((c.toNat : Int) == 116) with
        | true =>
          have HE := Lib.hid (facP_3 e1 e2)
          rw [HE.out] at hr2
          have HT3 : Hid (t * 3 = facL (ps.take (k + 1))) := Lib.hid (by rw [HT2.out, HE.out])
          have hw5 : IntKind.i64.wrap (t * 3) = t * 3 := IntWalk.i64_in _ (by omega)
          clear HT2 HE
          go_wp2
          go_roundw
          case rel => exact ⟨k + 1, t * 3, by omega, by go_num, rfl, hr2.1, hr2.2, HT3, by trivial⟩
          case measure => simp [intOf]; omega
        | false =>
          have HE := Lib.hid (facP_1 e1 e2)
          have HT3 : Hid (t = facL (ps.take (k + 1))) := Lib.hid (by rw [HT2.out, HE.out, Int.mul_one])
          clear HT2 HE hr2
          go_wp2
          go_roundw
          case rel => exact ⟨k + 1, t, by omega, by go_num, rfl, ht0, ht1, HT3, by trivial⟩
          case measure => simp [intOf]; omega
    · have hT := HT.out
      rw [List.take_of_length_le (by omega)] at hT
      have HTE := Lib.hid hT
      clear hT HT
      go_wp2
      go_ret
      exact ⟨by rw [← HTE.out]; rfl, Below.refl _ _⟩
/-- a row of bytes of the call's own -/
def BytesPost (w : World) (ps : List UInt8) (e : Ending) (w' : World) : Prop :=
  ∃ g cap, e = .returned (.slice (some ⟨g, 0, none⟩) ps.length cap) ∧ w'.ownsRow w.heap.size 5 1 (.slice (some ⟨g, 0, none⟩) ps.length cap) ps.length (ps.flatMap U8.enc) ∧ Below w.heap.size w w'
set_option maxRecDepth 100000 in
set_option maxHeartbeats 4000000 in
theorem premiumsUsed_any (b : Brd) (p : Ply) (n : Nat) (w : World) (hp : PGood b p n) :
    Calls Tryz.prog 96 #[.agg #[.int .i64 b.size, .string b.premium, .string b.cells], .agg #[.int .i64 p.row, .int .i64 p.col, .bool p.down, .string p.word]] w (BytesPost w ((b.fresh p).map fun i : Nat => b.prm (p.sr i) (p.sc i))) := by
  obtain ⟨i0, hi0, hi1, hi2, hi3⟩ := info_parts infoByte
  obtain ⟨w2, hw2⟩ : ∃ w2, w2 = (w.alloc (.cells #[.int .i64 b.size, .string b.premium, .string b.cells] 25)).alloc (.cells #[.int .i64 p.row, .int .i64 p.col, .bool p.down, .string p.word] 30) := ⟨_, rfl⟩
  have hb : Below w.heap.size w w2 := by rw [hw2]; exact ((Below.refl _ _).alloc (Nat.le_refl _) _).alloc (by simp) _
  have VB : Hid (VarAt w2 w.heap.size 25 [.int .i64 b.size, .string b.premium, .string b.cells]) := by
    rw [hw2]
    exact Lib.hid ((VarAt.new w 25 [.int .i64 b.size, .string b.premium, .string b.cells]).kept ((Below.refl _ _).alloc (Nat.le_refl _) _))
  have VP : Hid (VarAt w2 (w.heap.size + 1) 30 [.int .i64 p.row, .int .i64 p.col, .bool p.down, .string p.word]) := by
    rw [hw2]
    have := VarAt.new (w.alloc (.cells #[.int .i64 b.size, .string b.premium, .string b.cells] 25)) 30 [.int .i64 p.row, .int .i64 p.col, .bool p.down, .string p.word]
    simp only [World.size_alloc] at this
    exact Lib.hid this
  have HNS : Hid (∀ W, Calls Tryz.prog 121 #[.agg #[.int .i64 b.size, .string b.premium, .string b.cells], .agg #[.int .i64 p.row, .int .i64 p.col, .bool p.down, .string p.word]] W (NewPost p (b.fresh p) W)) := Lib.hid (fun W => newSquares_any b p n W hp)
  have HPR : Hid (∀ i : Nat, i < p.word.size → ∀ W, Calls Tryz.prog 183 #[.agg #[.int .i64 b.size, .string b.premium, .string b.cells], .int .i64 (p.sr i), .int .i64 (p.sc i)] W fun e w' => e = .returned (.int .u8 ((b.prm (p.sr i) (p.sc i)).toNat : Int)) ∧ Below W.heap.size W w') := Lib.hid (fun i h W => premium_any b n _ _ W hp.good (hp.good.inB.2 (hp.sq_in h)))
  have HLT : Hid (∀ i ∈ b.fresh p, i < p.word.size) := Lib.hid (fun i h => (freshL_lt h).1)
  have hfl : (b.fresh p).length ≤ p.word.size := freshL_len _ _ _ _
  have h12 := hp.twelve
  have HW2 := Lib.hid hw2
  clear hw2 hp
  generalize b.fresh p = fr at *
  obtain ⟨pr, hpr⟩ : ∃ pr : Nat → UInt8, ∀ i : Nat, pr i = b.prm (p.sr i) (p.sc i) := ⟨_, fun _ => rfl⟩
  simp only [← hpr] at HPR ⊢
  have HR : Hid (∀ k, k < fr.length → ∃ i : Nat, i < p.word.size ∧ (fr.map pr).take (k + 1) = (fr.map pr).take k ++ [pr i] ∧ ∀ (W : World) g c, W.ownsRow w.heap.size 73 2 (.slice (some ⟨g, 0, none⟩) fr.length c) fr.length ((fr.map (sqOf p)).flatMap Sq.enc) → W.cell? ⟨g, k * 2, none⟩ = some (.int .i64 (p.sr i)) ∧ W.cell? ⟨g, k * 2 + 1, none⟩ = some (.int .i64 (p.sc i))) := Lib.hid (fun k h => ⟨fr[k], HLT.out _ (List.getElem_mem _), by
    rw [take_u8 (by rw [List.length_map]; exact h), List.getElem_map], fun W g c hx => by
      have := row_sq hx (k := k) (by rw [List.length_map]; exact h)
      rw [List.getElem_map] at this
      exact this⟩)
  have HLM : Hid ((fr.map pr).length = fr.length) := Lib.hid (List.length_map _)
  clear hpr
  generalize fr.map pr = ps at *
  go_enter Tryz.func96, Tryz.ntmps96
  go_upto_region 1 with fail
  rw [← HW2.out]
  clear HW2
  have b0 := VB.out.cell (i := 0) rfl
  have b1 := VB.out.cell (i := 1) rfl
  have b2 := VB.out.cell (i := 2) rfl
  have p0 := VP.out.cell (i := 0) rfl
  have p1 := VP.out.cell (i := 1) rfl
  have p2 := VP.out.cell (i := 2) rfl
  have p3 := VP.out.cell (i := 3) rfl
  go_wp2_with fail
  refine (HNS.out _).mono ?_
  rintro e w3 ⟨gs, cs, gi, ci, rfl, hgg, hx, hxi, hd⟩
  have HX := Lib.hid (own_mono hx (show w.heap.size ≤ _ from hb.size))
  clear hx hxi hgg b0 b1 b2 p0 p1 p2 p3 HNS VP
  replace hb := hb.trans (hd.mono hb.size)
  replace VB := Lib.hid (VB.out.kept hd)
  clear hd
  generalize fr.map (sqOf p) = sqs at *
  generalize hfrl : fr.length = m at *
  clear hfrl
  have hgs := (HX.out.lt gs rfl)
  have hz3 := hb.size
  have HO : Hid ((w3.alloc (.cells #[] 5)).ownsRow w3.heap.size 5 1 (.slice (some ⟨w3.heap.size, 0, none⟩) 0 0) 0 ((ps.take 0).flatMap U8.enc)) := Lib.hid (World.ownsRow_made (base := w3.heap.size) (e := 5) (size := 1) w3 #[] 0 (Nat.le_refl _) (by unfold maxLen; omega) rfl)
  have hd : Below w3.heap.size w3 (w3.alloc (.cells #[] 5)) := (Below.refl _ _).alloc (Nat.le_refl _) _
  have hzb := VB.out.lt
  have hg0 := hd.size
  replace hb := hb.trans (hd.mono hb.size)
  replace HX := Lib.hid (own_below HX.out hd)
  replace VB := Lib.hid (VB.out.kept hd)
  clear hd
  go_wp2_with fail
  generalize hgo : w3.heap.size = go0 at *
  clear hgo
  go_loopw [7, 19] (fun ov iv wr => ∃ (k g1 cap : Nat), k ≤ m ∧ iv = .int .i64 k ∧ ov = .slice (some ⟨g1, 0, none⟩) k cap ∧ go0 ≤ wr.heap.size ∧ Hid (wr.ownsRow go0 5 1 (.slice (some ⟨g1, 0, none⟩) k cap) k ((ps.take k).flatMap U8.enc)) ∧ Hid (wr.ownsRow w.heap.size 73 2 (.slice (some ⟨gs, 0, none⟩) m cs) m (sqs.flatMap Sq.enc)) ∧ Hid (VarAt wr w.heap.size 25 [.int .i64 b.size, .string b.premium, .string b.cells]) ∧ Below w.heap.size w wr) (fun _ iv _ => m - (intOf iv).toNat)
  case atStart => exact ⟨0, _, 0, Nat.zero_le _, rfl, rfl, hg0, HO, HX, VB, hb⟩
  case round =>
    clear HO HX VB hb
    obtain ⟨k, g1, cap, hk, rfl, rfl, hgz, HO, HX, VB, hb⟩ := hrel
    by_cases hkm : k < m
    · obtain ⟨i, his, htk, hcl⟩ := HR.out k hkm
      obtain ⟨x0, x1⟩ := hcl _ _ _ HX.out
      have HTK := Lib.hid htk
      have HP := Lib.hid (HPR.out i his)
      clear htk hcl
      have VS := Lib.hid (VarAt.new wr 73 [.int .i64 (p.sr i), .int .i64 (p.sc i)])
      have hd : Below wr.heap.size wr (wr.alloc (.cells #[.int .i64 (p.sr i), .int .i64 (p.sc i)] 73)) := (Below.refl _ _).alloc (Nat.le_refl _) _
      go_upto_region 6 with fail
      clear x0 x1
      replace hgz := Nat.le_trans hgz hd.size
      replace hb := hb.trans (hd.mono hb.size)
      replace HO := Lib.hid (own_below HO.out hd)
      replace HX := Lib.hid (own_below HX.out hd)
      replace VB := Lib.hid (VB.out.kept hd)
      clear hd
      generalize wr.alloc (.cells #[.int .i64 (p.sr i), .int .i64 (p.sc i)] 73) = w6 at *
      have s0 := VS.out.cell (i := 0) rfl
      have s1 := VS.out.cell (i := 1) rfl
      have b0 := VB.out.cell (i := 0) rfl
      have b1 := VB.out.cell (i := 1) rfl
      have b2 := VB.out.cell (i := 2) rfl
      go_wp2_with fail
      refine (HP.out _).mono ?_
      rintro e wq ⟨rfl, hd⟩
      clear s0 s1 b0 b1 b2 VS
      replace hgz := Nat.le_trans hgz hd.size
      replace hb := hb.trans (hd.mono hb.size)
      replace HO := Lib.hid (own_below HO.out hd)
      replace HX := Lib.hid (own_below HX.out hd)
      replace VB := Lib.hid (VB.out.kept hd)
      clear hd
      generalize pr i = v at *
      have hx : Below wq.heap.size wq (wq.alloc (.cells #[.int .u8 (v.toNat : Int)] 5)) := (Below.refl _ _).alloc (Nat.le_refl _) _
      have KN := Lib.hid (new_byte wq v 5)
      have hgz2 := Nat.le_trans hgz hx.size
      replace hb := hb.trans (hx.mono hb.size)
      replace HO := Lib.hid (own_below HO.out hx)
      replace HX := Lib.hid (own_below HX.out hx)
      replace VB := Lib.hid (VB.out.kept hx)
      clear hx
      go_wp2_with (at_builtin; go_must (refine wpList_append_lies _ rfl (.tmp 23) (.tmp 30) 22 rfl go0 5 i0 _ 1 1 Tryz.underlying22 hi0 hi1 hi2 hi3 rfl (by decide) _ k ((ps.take k).flatMap U8.enc) (by rfl) HO.out ⟨wq.heap.size, 0, none⟩ 1 1 (U8.enc v) (by rfl) rfl KN.out (u8_one1 v) (by decide) ?c1 ?c2 ?c3 _ rfl ?_))
      case c1 => unfold maxLen; omega
      case c2 => omega
      case c3 => exact hgz2
      intro g7 cap7 w7 hown hgr hwh hlt7
      have hb7 := hb.grown hgr hb.size (fun q e => by have := (HO.out.lt q e).1; omega)
      have HO7 : Hid (w7.ownsRow go0 5 1 (.slice (some ⟨g7, 0, none⟩) (k + 1) cap7) (k + 1) ((ps.take (k + 1)).flatMap U8.enc)) := Lib.hid (by rw [HTK.out, snoc_flat U8.enc]; exact hown)
      have VB7 := Lib.hid (VB.out.grown hgr (own_ne HO.out (by omega)))
      have HX7 := Lib.hid (HX.out.kept hgr (.inr (fun e => by have := (HO.out.lt gs e.symm).1; omega)))
      have hgz7 := Nat.le_trans hgz2 hgr.size
      clear hown hgr hwh KN HO hb VB HX
      go_wp2
      go_roundw
      case rel => exact ⟨k + 1, g7, cap7, by omega, by go_num, by go_num, hgz7, HO7, HX7, VB7, hb7⟩
      case measure => simp [intOf]; omega
    · obtain rfl : k = m := by omega
      have hO := HO.out
      rw [List.take_of_length_le (by rw [HLM.out]; exact Nat.le_refl _)] at hO
      have HON := Lib.hid hO
      clear hO HO
      go_wp2
      go_ret
      exact ⟨g1, cap, by rw [HLM.out]; rfl, by rw [HLM.out]; exact own_mono HON.out (by omega), hb⟩
end Go.Proofs.YtjdcdhhbgijaoaaGreatDoor

namespace Go.Proofs.YtjdcdhhbgijaoaaGreatDoor
open Go.ChangeShapes Go.WideShapes Go.ChangeAt Go.RowKit Go.Sort

theorem PGood.prm_sq {b : Brd} {p : Ply} {n : Nat} (h : PGood b p n) {i : Nat} (hi : i < p.word.size) : b.pview p p.r (p.c + i) = b.prm (p.sr i) (p.sc i) := by
  have hin := h.good.inB.2 (h.sq_in hi)
  unfold Brd.pview Brd.flat Ply.r Ply.c
  unfold Ply.sr Ply.sc at hin ⊢
  cases hd : p.down with
  | false => rfl
  | true =>
    rw [hd] at hin
    have hs := h.good.inB.1 hin
    exact h.good.turn_prm (r := p.col) (c := p.row + i) (h.good.inB.2 ⟨hs.2, hs.1⟩)
set_option maxRecDepth 100000 in
set_option maxHeartbeats 4000000 in
theorem letterScores_any (x : Tls) (q : TlA) (b : Brd) (p : Ply) (n : Nat) (w : World) (ha : x.At q w) (hx : x.Good) (hp : PGood b p n) :
    Calls Tryz.prog 93 #[.agg #[.string x.letters, .slice q.values.a x.values.length q.values.c, .slice q.counts.a x.counts.length q.counts.c, .int .i64 x.blanks], .agg #[.int .i64 b.size, .string b.premium, .string b.cells], .agg #[.int .i64 p.row, .int .i64 p.col, .bool p.down, .string p.word]] w (NumsPost w (lettersA x (b.view p) (b.pview p) p.r p.c p.word.data.toList p.word.size)) := by
  obtain ⟨i0, hi0, hi1, hi2, hi3⟩ := info_parts infoI64
  obtain ⟨w2, hw2⟩ : ∃ w2, w2 = (((w.alloc (.cells #[.string x.letters, .slice q.values.a x.values.length q.values.c, .slice q.counts.a x.counts.length q.counts.c, .int .i64 x.blanks] 44)).alloc (.cells #[.int .i64 b.size, .string b.premium, .string b.cells] 25)).alloc (.cells #[.int .i64 p.row, .int .i64 p.col, .bool p.down, .string p.word] 30)).alloc (.cells #[] 2) := ⟨_, rfl⟩
  have hb3 : Below w.heap.size w (((w.alloc (.cells #[.string x.letters, .slice q.values.a x.values.length q.values.c, .slice q.counts.a x.counts.length q.counts.c, .int .i64 x.blanks] 44)).alloc (.cells #[.int .i64 b.size, .string b.premium, .string b.cells] 25)).alloc (.cells #[.int .i64 p.row, .int .i64 p.col, .bool p.down, .string p.word] 30)) := (((Below.refl _ _).alloc (Nat.le_refl _) _).alloc (by simp) _).alloc (by simp; omega) _
  have hz3 : (((w.alloc (.cells #[.string x.letters, .slice q.values.a x.values.length q.values.c, .slice q.counts.a x.counts.length q.counts.c, .int .i64 x.blanks] 44)).alloc (.cells #[.int .i64 b.size, .string b.premium, .string b.cells] 25)).alloc (.cells #[.int .i64 p.row, .int .i64 p.col, .bool p.down, .string p.word] 30)).heap.size = w.heap.size + 3 := by simp
  have hd4 : Below (((w.alloc (.cells #[.string x.letters, .slice q.values.a x.values.length q.values.c, .slice q.counts.a x.counts.length q.counts.c, .int .i64 x.blanks] 44)).alloc (.cells #[.int .i64 b.size, .string b.premium, .string b.cells] 25)).alloc (.cells #[.int .i64 p.row, .int .i64 p.col, .bool p.down, .string p.word] 30)).heap.size (((w.alloc (.cells #[.string x.letters, .slice q.values.a x.values.length q.values.c, .slice q.counts.a x.counts.length q.counts.c, .int .i64 x.blanks] 44)).alloc (.cells #[.int .i64 b.size, .string b.premium, .string b.cells] 25)).alloc (.cells #[.int .i64 p.row, .int .i64 p.col, .bool p.down, .string p.word] 30)) w2 := by rw [hw2]; exact (Below.refl _ _).alloc (Nat.le_refl _) _
  have HA := Lib.hid ha
  have HT : Hid (VarAt w2 w.heap.size 44 [.string x.letters, .slice q.values.a x.values.length q.values.c, .slice q.counts.a x.counts.length q.counts.c, .int .i64 x.blanks]) := Lib.hid ((((VarAt.new w 44 [.string x.letters, .slice q.values.a x.values.length q.values.c, .slice q.counts.a x.counts.length q.counts.c, .int .i64 x.blanks]).kept ((Below.refl _ _).alloc (Nat.le_refl _) _)).kept ((Below.refl _ _).alloc (Nat.le_refl _) _)).kept hd4)
  have VB : Hid (VarAt w2 (w.heap.size + 1) 25 [.int .i64 b.size, .string b.premium, .string b.cells]) := by
    have := ((VarAt.new (w.alloc (.cells #[.string x.letters, .slice q.values.a x.values.length q.values.c, .slice q.counts.a x.counts.length q.counts.c, .int .i64 x.blanks] 44)) 25 [.int .i64 b.size, .string b.premium, .string b.cells]).kept ((Below.refl _ _).alloc (Nat.le_refl _) (.cells #[.int .i64 p.row, .int .i64 p.col, .bool p.down, .string p.word] 30))).kept hd4
    simp only [World.size_alloc] at this
    exact Lib.hid this
  have VP : Hid (VarAt w2 (w.heap.size + 2) 30 [.int .i64 p.row, .int .i64 p.col, .bool p.down, .string p.word]) := by
    have := (VarAt.new ((w.alloc (.cells #[.string x.letters, .slice q.values.a x.values.length q.values.c, .slice q.counts.a x.counts.length q.counts.c, .int .i64 x.blanks] 44)).alloc (.cells #[.int .i64 b.size, .string b.premium, .string b.cells] 25)) 30 [.int .i64 p.row, .int .i64 p.col, .bool p.down, .string p.word]).kept hd4
    simp only [World.size_alloc] at this
    exact Lib.hid this
  have hb := hb3.trans (hd4.mono hb3.size)
  have hw2s : w2.heap.size = w.heap.size + 4 := by rw [hw2]; simp
  obtain ⟨lt, hlt⟩ : ∃ lt : Nat → List Int, ∀ k, lt k = lettersA x (b.view p) (b.pview p) p.r p.c p.word.data.toList k := ⟨_, fun _ => rfl⟩
  have HO : Hid (w2.ownsRow (w.heap.size + 3) 2 1 (.slice (some ⟨w.heap.size + 3, 0, none⟩) 0 0) 0 ((lt 0).flatMap I64.enc)) := by
    rw [hw2, show lt 0 = [] from by rw [hlt]; rfl]
    have := World.ownsRow_made (base := w.heap.size + 3) (e := 2) (size := 1) (((w.alloc (.cells #[.string x.letters, .slice q.values.a x.values.length q.values.c, .slice q.counts.a x.counts.length q.counts.c, .int .i64 x.blanks] 44)).alloc (.cells #[.int .i64 b.size, .string b.premium, .string b.cells] 25)).alloc (.cells #[.int .i64 p.row, .int .i64 p.col, .bool p.down, .string p.word] 30)) #[] 0 (by simp) (by unfold maxLen; omega) rfl
    simp only [World.size_alloc] at this
    exact Lib.hid this
  have h12 := hp.twelve
  have hn15 := hp.good.hi
  have HAS := Lib.hid hp.ascii
  have hrc : (-100 ≤ p.row ∧ p.row ≤ 100) ∧ (-100 ≤ p.col ∧ p.col ≤ 100) := by
    have h1 := hp.r0; have h2 := hp.r1; have h3 := hp.c0; have h4 := hp.c1
    unfold Ply.r at h1 h2; unfold Ply.c at h3 h4
    cases hd : p.down <;> rw [hd] at h1 h2 h3 h4 <;> simp at h1 h2 h3 h4 <;> omega
  have HSQ : Hid (∀ k : Nat, k < p.word.size → ∀ W, Calls Tryz.prog 177 #[.agg #[.int .i64 p.row, .int .i64 p.col, .bool p.down, .string p.word], .int .i64 (k : Int)] W fun e w' => e = .returned (.agg #[.int .i64 (p.sr k), .int .i64 (p.sc k)]) ∧ Below W.heap.size W w') := Lib.hid (fun k h W => square_any p k W (by omega) hrc.1 hrc.2)
  have HON : Hid (∀ k : Nat, k < p.word.size → ∀ W, Calls Tryz.prog 191 #[.agg #[.int .i64 b.size, .string b.premium, .string b.cells], .agg #[.int .i64 (p.sr k), .int .i64 (p.sc k)]] W fun e w' => e = .returned (.bool (b.view p p.r (p.c + k) != 46)) ∧ Below W.heap.size W w') := Lib.hid (fun k h W => by
    rw [← hp.full h, ← hp.good.sq]
    exact on_any b n _ _ W hp.good)
  have HPR : Hid (∀ k : Nat, k < p.word.size → ∀ W, Calls Tryz.prog 183 #[.agg #[.int .i64 b.size, .string b.premium, .string b.cells], .int .i64 (p.sr k), .int .i64 (p.sc k)] W fun e w' => e = .returned (.int .u8 ((b.pview p p.r (p.c + k)).toNat : Int)) ∧ Below W.heap.size W w') := Lib.hid (fun k h W => by
    rw [hp.prm_sq h]
    exact premium_any b n _ _ W hp.good (hp.good.inB.2 (hp.sq_in h)))
  have HLS : Hid (∀ (y pr : UInt8) W, x.At q W → Calls Tryz.prog 184 #[.agg #[.string x.letters, .slice q.values.a x.values.length q.values.c, .slice q.counts.a x.counts.length q.counts.c, .int .i64 x.blanks], .int .u8 (y.toNat : Int), .int .u8 (pr.toNat : Int)] W fun e w' => e = .returned (.int .i64 (letS (x.val y) pr)) ∧ Below W.heap.size W w') := Lib.hid (fun y pr W h => letterScore_any x q y pr W h hx)
  have HA1 : Hid (∀ k (h : k < p.word.size), b.view p p.r (p.c + k) = 46 → lt (k + 1) = lt k ++ [letS (x.val p.word[k]) (b.pview p p.r (p.c + k))]) := Lib.hid (fun k h e => by
    rw [hlt, hlt, lettersA_snoc]
    unfold letA
    rw [if_pos e, byte_getD h])
  have HA2 : Hid (∀ k (h : k < p.word.size), b.view p p.r (p.c + k) ≠ 46 → lt (k + 1) = lt k ++ [letS (x.val p.word[k]) 46]) := Lib.hid (fun k h e => by
    rw [hlt, hlt, lettersA_snoc]
    unfold letA
    rw [if_neg e, byte_getD h]
    rfl)
  have HLL : Hid (∀ k, (lt k).length = k) := Lib.hid (fun k => by rw [hlt, lettersA_len])
  have HEND : Hid (lettersA x (b.view p) (b.pview p) p.r p.c p.word.data.toList p.word.size = lt p.word.size) := Lib.hid (hlt _).symm
  rw [HEND.out]
  have HW2 := Lib.hid hw2
  have HWS := Lib.hid hw2s
  clear hw2s
  clear hw2 hp hlt HEND hd4 hb3 hz3 ha hx hrc
  generalize b.view p = F at *
  generalize b.pview p = G at *
  go_enter Tryz.func93, Tryz.ntmps93
  go_upto_region 2 with fail
  rw [← HW2.out]
  clear HW2
  have c3 := VP.out.cell (i := 3) rfl
  have hit := iter_below w2 p.word
  have HI := Lib.hid (IterAt.new w2 p.word)
  have hitl := HI.out.lt
  go_wp2_with fail
  clear c3
  replace HO := Lib.hid (own_below HO.out hit)
  replace HT := Lib.hid (HT.out.kept hit)
  replace VB := Lib.hid (VB.out.kept hit)
  replace VP := Lib.hid (VP.out.kept hit)
  replace hb := hb.trans (hit.mono hb.size)
  clear hit
  generalize w2.iter p.word 0 = w5 at *
  obtain ⟨it, hit⟩ : ∃ it, it = w2.heap.size := ⟨_, rfl⟩
  rw [← hit] at HI hitl ⊢
  have hitg : w.heap.size + 4 ≤ it := by have := HWS.out; omega
  clear hit HWS
  go_loopw [7] (fun ov wr => ∃ (k g1 cap : Nat), k ≤ p.word.size ∧ ov = .slice (some ⟨g1, 0, none⟩) k cap ∧ g1 ≠ it ∧ it < wr.heap.size ∧ Hid (wr.ownsRow (w.heap.size + 3) 2 1 (.slice (some ⟨g1, 0, none⟩) k cap) k ((lt k).flatMap I64.enc)) ∧ Hid (IterAt wr it p.word k) ∧ Hid (VarAt wr w.heap.size 44 [.string x.letters, .slice q.values.a x.values.length q.values.c, .slice q.counts.a x.counts.length q.counts.c, .int .i64 x.blanks]) ∧ Hid (VarAt wr (w.heap.size + 1) 25 [.int .i64 b.size, .string b.premium, .string b.cells]) ∧ Hid (VarAt wr (w.heap.size + 2) 30 [.int .i64 p.row, .int .i64 p.col, .bool p.down, .string p.word]) ∧ Below w.heap.size w wr) (fun _ wr => p.word.size - wr.iterPos it)
  case atStart => exact ⟨0, _, 0, Nat.zero_le _, rfl, by omega, hitl, HO, HI, HT, VB, VP, hb⟩
  case round =>
    clear HO HI HT VB VP hb hitl
    obtain ⟨k, g1, cap, hk, rfl, hn1, hitl, HO, HI, HT, VB, VP, hb⟩ := hrel
    by_cases hlt : k < p.word.size
    · obtain ⟨w1, hnx, hi2, hg2⟩ := next_at (P := Tryz.prog) HI.out hlt (HAS.out k hlt)
      have HPO := Lib.hid HI.out.pos
      replace HI := Lib.hid hi2
      replace HT := Lib.hid (HT.out.grown hg2 (by simp; omega))
      replace VB := Lib.hid (VB.out.grown hg2 (by simp; omega))
      replace VP := Lib.hid (VP.out.grown hg2 (by simp; omega))
      replace HO := Lib.hid (HO.out.kept hg2 (.inr (by simp [Value.ownBlock]; omega)))
      have hitn := Nat.lt_of_lt_of_le hitl hg2.size
      clear hitl
      have hitl := hitn
      replace hb := hb.grown hg2 hb.size (fun q h => by cases h; omega)
      clear hi2 hg2 hitn
      have b0 := VP.out.cell (i := 0) rfl
      have b1 := VP.out.cell (i := 1) rfl
      have b2 := VP.out.cell (i := 2) rfl
      have b3 := VP.out.cell (i := 3) rfl
      go_wp2_with fail
      clear hnx b0 b1 b2 b3
      refine (HSQ.out k hlt _).mono ?_
      rintro e w6 ⟨rfl, hd⟩
      replace HO := Lib.hid (own_below HO.out hd)
      replace HI := Lib.hid (HI.out.kept hd)
      replace HT := Lib.hid (HT.out.kept hd)
      replace VB := Lib.hid (VB.out.kept hd)
      replace VP := Lib.hid (VP.out.kept hd)
      replace hitl := Nat.lt_of_lt_of_le hitl (hd).size
      replace hb := hb.trans ((hd).mono hb.size)
      clear hd
      have VS := Lib.hid (VarAt.new w6 73 [.int .i64 (p.sr k), .int .i64 (p.sc k)])
      have hd : Below w6.heap.size w6 (w6.alloc (.cells #[.int .i64 (p.sr k), .int .i64 (p.sc k)] 73)) := (Below.refl _ _).alloc (Nat.le_refl _) _
      replace HO := Lib.hid (own_below HO.out hd)
      replace HI := Lib.hid (HI.out.kept hd)
      replace HT := Lib.hid (HT.out.kept hd)
      replace VB := Lib.hid (VB.out.kept hd)
      replace VP := Lib.hid (VP.out.kept hd)
      replace hitl := Nat.lt_of_lt_of_le hitl (hd).size
      replace hb := hb.trans ((hd).mono hb.size)
      clear hd
      have b0 := VB.out.cell (i := 0) rfl
      have b1 := VB.out.cell (i := 1) rfl
      have b2 := VB.out.cell (i := 2) rfl
      have s0 := VS.out.cell (i := 0) rfl
      have s1 := VS.out.cell (i := 1) rfl
      go_wp2_with fail
      refine (HON.out k hlt _).mono ?_
      rintro e w7 ⟨rfl, hd⟩
      clear b0 b1 b2 s0 s1
      replace VS := Lib.hid (VS.out.kept hd)
      replace HO := Lib.hid (own_below HO.out hd)
      replace HI := Lib.hid (HI.out.kept hd)
      replace HT := Lib.hid (HT.out.kept hd)
      replace VB := Lib.hid (VB.out.kept hd)
      replace VP := Lib.hid (VP.out.kept hd)
      replace hitl := Nat.lt_of_lt_of_le hitl (hd).size
      replace hb := hb.trans ((hd).mono hb.size)
      clear hd
      cases e1 : (F p.r (p.c + (k : Int)) != 46) with
      | true =>
        have HSN := Lib.hid (HA2.out k hlt (by simpa using e1))
        have HC : Hid (∀ W, x.At q W → Calls Tryz.prog 184 #[.agg #[.string x.letters, .slice q.values.a x.values.length q.values.c, .slice q.counts.a x.counts.length q.counts.c, .int .i64 x.blanks], .int .u8 (p.word[k].toNat : Int), .int .u8 46] W fun e w' => e = .returned (.int .i64 (letS (x.val p.word[k]) 46)) ∧ Below W.heap.size W w') := Lib.hid (fun W h => HLS.out p.word[k] 46 W h)
        generalize letS (x.val p.word[k]) 46 = v at *
        clear e1
        go_upto_region 8 with fail
        have hk2 : Below w7.heap.size w7 w7.drew := (Below.refl _ _).drew
        have VZ := Lib.hid (VP.out.kept hk2)
        have VT := Lib.hid (HT.out.kept hk2)
        have hzq := hb.size
        have hzv := VP.out.lt
        have hit0 := hitl
        go_region_held3 (fun w' => w'.cell? ⟨w.heap.size + 2, 3, none⟩ = some (.string p.word) ∧ w'.cell? ⟨w.heap.size, 0, none⟩ = some (.string x.letters) ∧ w'.cell? ⟨w.heap.size, 1, none⟩ = some (.slice q.values.a x.values.length q.values.c) ∧ w'.cell? ⟨w.heap.size, 2, none⟩ = some (.slice q.counts.a x.counts.length q.counts.c) ∧ w'.cell? ⟨w.heap.size, 3, none⟩ = some (.int .i64 x.blanks))
          (first | exact ⟨VZ.out.cell (i := 3) rfl, VT.out.cell (i := 0) rfl, VT.out.cell (i := 1) rfl, VT.out.cell (i := 2) rfl, VT.out.cell (i := 3) rfl⟩ | exact ⟨cell_alloc (VZ.out.cell (i := 3) rfl) _, cell_alloc (VT.out.cell (i := 0) rfl) _, cell_alloc (VT.out.cell (i := 1) rfl) _, cell_alloc (VT.out.cell (i := 2) rfl) _, cell_alloc (VT.out.cell (i := 3) rfl) _⟩)
          (first
            | (go_at_call 184; refine (HC.out _ (HA.out.kept (hb.trans (hk2.mono hb.size)))).mono ?_; rintro e wx ⟨rfl, hdd⟩; replace VZ := Lib.hid (VZ.out.kept hdd); replace VT := Lib.hid (VT.out.kept hdd); replace hk2 := hk2.trans (hdd.mono hk2.size); clear hdd)
            | ((first | refine step_new_drew ?_ | refine step_new ?_); intro wz hxz hnz hoz; have nb0 := hnz.1 0 _ rfl; replace VZ := Lib.hid (VZ.out.kept hxz); replace VT := Lib.hid (VT.out.kept hxz); replace hk2 := hk2.trans (hxz.mono hk2.size); have HO2 := Lib.hid (own_below HO.out hk2); have hzz : w.heap.size + 3 ≤ wz.heap.size := Nat.le_trans hzv hk2.size; clear hxz hnz hoz; refine step_append_lies _ ?_ (.tmp 31) (.tmp 39) 42 ?_ (w.heap.size + 3) 2 i0 (.int .i64 0) 1 8 Tryz.underlying42 hi0 hi1 hi2 hi3 rfl (by decide) (.slice (some ⟨g1, 0, none⟩) k cap) k ((lt k).flatMap I64.enc) ?_ HO2.out ⟨_, 0, none⟩ 1 1 (I64.enc v) ?_ rfl (newsN1 nb0) (i64_one v) (by decide) ?_ ?_ hzz _ rfl ?_; (all_goals (first | rfl | (unfold maxLen; omega) | omega | skip)); intro g5 cap5 w5 ho5 hg5 hat5 hlt5; replace VZ := Lib.hid (VZ.out.grown hg5 (own_ne HO2.out (by omega))); replace VT := Lib.hid (VT.out.grown hg5 (own_ne HO2.out (by omega)))))
        all_goals
          have hb5 := (hb.trans (hk2.mono hb.size)).grown hg5 (Nat.le_trans hzq hk2.size) (fun q h => by have := (HO2.out.lt q h).1; omega)
          have HO5 : Hid (w5.ownsRow (w.heap.size + 3) 2 1 (.slice (some ⟨g5, 0, none⟩) (k + 1) cap5) (k + 1) ((lt (k + 1)).flatMap I64.enc)) := Lib.hid (by
            rw [HSN.out, ← flat_snoc I64.enc]; exact ho5)
          have hne5 : g5 ≠ it := by
            have h1 := Nat.lt_of_lt_of_le hit0 hk2.size
            rcases hat5 with h | h
            · simp [Value.ownBlock] at h; omega
            · omega
          have HI5 := Lib.hid ((HI.out.kept hk2).grown hg5 (by simp [Value.ownBlock]; omega))
          have VB5 := Lib.hid ((VB.out.kept hk2).grown hg5 (own_ne HO2.out (by omega)))
          have hit5 : it < w5.heap.size := Nat.lt_of_lt_of_le (Nat.lt_of_lt_of_le hit0 hk2.size) hg5.size
          clear ho5 hg5 hat5 hlt5 nb0 hk2 HO2 hzz HO hb VB HT VP HI
          go_wp2
          go_roundw
          case rel => exact ⟨k + 1, g5, cap5, by omega, by go_num, hne5, hit5, HO5, HI5, VT, VB5, VZ, hb5⟩
          case measure => rw [HPO.out, HI5.out.pos]; omega
      | false =>
        have HSN := Lib.hid (HA1.out k hlt (by simpa using e1))
        have HC : Hid (∀ W, x.At q W → Calls Tryz.prog 184 #[.agg #[.string x.letters, .slice q.values.a x.values.length q.values.c, .slice q.counts.a x.counts.length q.counts.c, .int .i64 x.blanks], .int .u8 (p.word[k].toNat : Int), .int .u8 ((G p.r (p.c + (k : Int))).toNat : Int)] W fun e w' => e = .returned (.int .i64 (letS (x.val p.word[k]) (G p.r (p.c + (k : Int))))) ∧ Below W.heap.size W w') := Lib.hid (fun W h => HLS.out p.word[k] _ W h)
        generalize letS (x.val p.word[k]) (G p.r (p.c + (k : Int))) = v at *
        have b0 := VB.out.cell (i := 0) rfl
        have b1 := VB.out.cell (i := 1) rfl
        have b2 := VB.out.cell (i := 2) rfl
        have s0 := VS.out.cell (i := 0) rfl
        have s1 := VS.out.cell (i := 1) rfl
        clear e1
        go_wp2_with fail
        refine (HPR.out k hlt _).mono ?_
        rintro e w8 ⟨rfl, hd⟩
        clear b0 b1 b2 s0 s1
        replace HO := Lib.hid (own_below HO.out hd)
        replace HI := Lib.hid (HI.out.kept hd)
        replace HT := Lib.hid (HT.out.kept hd)
        replace VB := Lib.hid (VB.out.kept hd)
        replace VP := Lib.hid (VP.out.kept hd)
        replace hitl := Nat.lt_of_lt_of_le hitl (hd).size
        replace hb := hb.trans ((hd).mono hb.size)
        clear hd
        go_upto_region 8 with fail
        have hk2 : Below w8.heap.size w8 w8.drew := (Below.refl _ _).drew
        have VZ := Lib.hid (VP.out.kept hk2)
        have VT := Lib.hid (HT.out.kept hk2)
        have hzq := hb.size
        have hzv := VP.out.lt
        have hit0 := hitl
        go_region_held3 (fun w' => w'.cell? ⟨w.heap.size + 2, 3, none⟩ = some (.string p.word) ∧ w'.cell? ⟨w.heap.size, 0, none⟩ = some (.string x.letters) ∧ w'.cell? ⟨w.heap.size, 1, none⟩ = some (.slice q.values.a x.values.length q.values.c) ∧ w'.cell? ⟨w.heap.size, 2, none⟩ = some (.slice q.counts.a x.counts.length q.counts.c) ∧ w'.cell? ⟨w.heap.size, 3, none⟩ = some (.int .i64 x.blanks))
          (first | exact ⟨VZ.out.cell (i := 3) rfl, VT.out.cell (i := 0) rfl, VT.out.cell (i := 1) rfl, VT.out.cell (i := 2) rfl, VT.out.cell (i := 3) rfl⟩ | exact ⟨cell_alloc (VZ.out.cell (i := 3) rfl) _, cell_alloc (VT.out.cell (i := 0) rfl) _, cell_alloc (VT.out.cell (i := 1) rfl) _, cell_alloc (VT.out.cell (i := 2) rfl) _, cell_alloc (VT.out.cell (i := 3) rfl) _⟩)
          (first
            | (go_at_call 184; refine (HC.out _ (HA.out.kept (hb.trans (hk2.mono hb.size)))).mono ?_; rintro e wx ⟨rfl, hdd⟩; replace VZ := Lib.hid (VZ.out.kept hdd); replace VT := Lib.hid (VT.out.kept hdd); replace hk2 := hk2.trans (hdd.mono hk2.size); clear hdd)
            | ((first | refine step_new_drew ?_ | refine step_new ?_); intro wz hxz hnz hoz; have nb0 := hnz.1 0 _ rfl; replace VZ := Lib.hid (VZ.out.kept hxz); replace VT := Lib.hid (VT.out.kept hxz); replace hk2 := hk2.trans (hxz.mono hk2.size); have HO2 := Lib.hid (own_below HO.out hk2); have hzz : w.heap.size + 3 ≤ wz.heap.size := Nat.le_trans hzv hk2.size; clear hxz hnz hoz; refine step_append_lies _ ?_ (.tmp 31) (.tmp 39) 42 ?_ (w.heap.size + 3) 2 i0 (.int .i64 0) 1 8 Tryz.underlying42 hi0 hi1 hi2 hi3 rfl (by decide) (.slice (some ⟨g1, 0, none⟩) k cap) k ((lt k).flatMap I64.enc) ?_ HO2.out ⟨_, 0, none⟩ 1 1 (I64.enc v) ?_ rfl (newsN1 nb0) (i64_one v) (by decide) ?_ ?_ hzz _ rfl ?_; (all_goals (first | rfl | (unfold maxLen; omega) | omega | skip)); intro g5 cap5 w5 ho5 hg5 hat5 hlt5; replace VZ := Lib.hid (VZ.out.grown hg5 (own_ne HO2.out (by omega))); replace VT := Lib.hid (VT.out.grown hg5 (own_ne HO2.out (by omega)))))
        all_goals
          have hb5 := (hb.trans (hk2.mono hb.size)).grown hg5 (Nat.le_trans hzq hk2.size) (fun q h => by have := (HO2.out.lt q h).1; omega)
          have HO5 : Hid (w5.ownsRow (w.heap.size + 3) 2 1 (.slice (some ⟨g5, 0, none⟩) (k + 1) cap5) (k + 1) ((lt (k + 1)).flatMap I64.enc)) := Lib.hid (by
            rw [HSN.out, ← flat_snoc I64.enc]; exact ho5)
          have hne5 : g5 ≠ it := by
            have h1 := Nat.lt_of_lt_of_le hit0 hk2.size
            rcases hat5 with h | h
            · simp [Value.ownBlock] at h; omega
            · omega
          have HI5 := Lib.hid ((HI.out.kept hk2).grown hg5 (by simp [Value.ownBlock]; omega))
          have VB5 := Lib.hid ((VB.out.kept hk2).grown hg5 (own_ne HO2.out (by omega)))
          have hit5 : it < w5.heap.size := Nat.lt_of_lt_of_le (Nat.lt_of_lt_of_le hit0 hk2.size) hg5.size
          clear ho5 hg5 hat5 hlt5 nb0 hk2 HO2 hzz HO hb VB HT VP HI
          go_wp2
          go_roundw
          case rel => exact ⟨k + 1, g5, cap5, by omega, by go_num, hne5, hit5, HO5, HI5, VT, VB5, VZ, hb5⟩
          case measure => rw [HPO.out, HI5.out.pos]; omega
    · have hnx := next_end (P := Tryz.prog) HI.out hlt
      obtain rfl : k = p.word.size := by omega
      go_wp2
      go_ret
      exact ⟨g1, cap, by rw [HLL.out]; rfl, by rw [HLL.out]; exact own_mono HO.out (by omega), hb⟩
end Go.Proofs.YtjdcdhhbgijaoaaGreatDoor

namespace Go.Proofs.YtjdcdhhbgijaoaaGreatDoor
open Go.ChangeShapes Go.WideShapes Go.ChangeAt Go.RowKit Go.Sort

/-- a play lies at a block -/
def PlAt (w : World) (g : Nat) (p : Ply) : Prop :=
  w.cell? ⟨g, 0, none⟩ = some (.int .i64 p.row) ∧ w.cell? ⟨g, 1, none⟩ = some (.int .i64 p.col) ∧ w.cell? ⟨g, 2, none⟩ = some (.bool p.down) ∧ w.cell? ⟨g, 3, none⟩ = some (.string p.word)
theorem PlAt.kept {w w' : World} {g : Nat} {p : Ply} (h : PlAt w g p) (hb : Below w.heap.size w w') : PlAt w' g p := ⟨cell_kept h.1 hb, cell_kept h.2.1 hb, cell_kept h.2.2.1 hb, cell_kept h.2.2.2 hb⟩
theorem PlAt.new (w : World) (p : Ply) (t : TypeId) : PlAt (w.alloc (.cells #[.int .i64 p.row, .int .i64 p.col, .bool p.down, .string p.word] t)) w.heap.size p := ⟨cell_new0 w _ t rfl, cell_new0 w _ t rfl, cell_new0 w _ t rfl, cell_new0 w _ t rfl⟩
set_option maxHeartbeats 1000000 in
theorem scorFn_any (b : Brd) (p : Ply) (n bb : Nat) (w : World) (hb0 : b.Good n) (hs : p.word.size ≤ 1048576) (hE : CEnv w) (hg : BAt w bb 0 b) :
    Calls Tryz.prog 180 #[.agg #[.int .i64 p.row, .int .i64 p.col, .bool p.down, .string p.word], .pointer (some ⟨bb, 0, none⟩)] w fun e w' => e = .returned (.bool (!b.okPlay p)) ∧ Below w.heap.size w w' := by
  have hb : Below w.heap.size w (w.alloc (.cells #[.int .i64 p.row, .int .i64 p.col, .bool p.down, .string p.word] 30)) := (Below.refl _ _).alloc (Nat.le_refl _) _
  have VP := Lib.hid (PlAt.new w p 30)
  have HG := Lib.hid (hg.kept hb)
  have HE := Lib.hid (hE.kept hb)
  clear hg hE
  go_enter Tryz.func180, Tryz.ntmps180
  go_upto_region 1 with fail
  generalize w.alloc (.cells #[.int .i64 p.row, .int .i64 p.col, .bool p.down, .string p.word] 30) = w1 at *
  obtain ⟨p0, p1, p2, p3⟩ := VP.out
  obtain ⟨b0, b1, b2⟩ := HG.out
  go_wp2_with fail
  refine (validOn_any b p n _ hb0 hs HE.out).mono ?_
  rintro e w2 ⟨rfl, hd⟩
  replace hb := hb.trans (hd.mono hb.size)
  clear hd p0 p1 p2 p3 b0 b1 b2
  go_wp2
  go_ret
  exact ⟨rfl, hb⟩
set_option maxRecDepth 100000 in
set_option maxHeartbeats 2000000 in
theorem indexFn_any (b : Brd) (p : Ply) (n bb sb : Nat) (w : World) (hb0 : b.Good n) (hs : p.word.size ≤ 1048576) (hE : CEnv w) (hg : BAt w bb 0 b) (hp : PlAt w sb p) :
    Calls Tryz.prog 243 #[.slice (some ⟨sb, 0, none⟩) 1 1, .func (.func 180) #[] #[.pointer (some ⟨bb, 0, none⟩)]] w fun e w' => e = .returned (.int .i64 (if b.okPlay p then -1 else 0)) ∧ Below w.heap.size w w' := by
  have HSF := Lib.hid (scorFn_any b p n bb w hb0 hs hE hg)
  obtain ⟨p0, p1, p2, p3⟩ := hp
  clear hb0 hE hg
  cases hk : b.okPlay p with
  | true =>
    rw [hk] at HSF
    go_enter Tryz.func243, Tryz.ntmps243
    go_wp2_with fail
    go_loopw [8] (fun iv wr => ∃ k : Nat, k ≤ 1 ∧ iv = .int .i64 k ∧ (k = 0 → w = wr) ∧ Below w.heap.size w wr) (fun iv _ => 1 - (intOf iv).toNat)
    case atStart => exact ⟨0, by omega, rfl, fun _ => rfl, Below.refl _ _⟩
    case round =>
      obtain ⟨k, hk1, rfl, hw, hb⟩ := hrel
      by_cases h0 : k = 0
      · subst h0
        obtain rfl := hw rfl
        go_wp2_with fail
        refine (HSF.out).mono ?_
        rintro e w2 ⟨rfl, hd⟩
        go_wp2
        go_roundw
        case rel => exact ⟨1, by omega, rfl, fun h => absurd h (by omega), hd⟩
        case measure => simp [intOf]
      · obtain rfl : k = 1 := by omega
        go_wp2
        go_ret
        exact ⟨rfl, hb⟩
  | false =>
    rw [hk] at HSF
    go_enter Tryz.func243, Tryz.ntmps243
    go_wp2_with fail
    go_loopw [8] (fun iv wr => iv = .int .i64 0 ∧ w = wr) (fun iv _ => 1 - (intOf iv).toNat)
    case atStart => exact ⟨rfl, rfl⟩
    case round =>
      obtain ⟨rfl, rfl⟩ := hrel
      go_wp2_with fail
      refine (HSF.out).mono ?_
      rintro e w2 ⟨rfl, hd⟩
      go_wp2
      go_ret
      exact ⟨rfl, hd⟩
set_option maxHeartbeats 1000000 in
theorem containsFn_any (b : Brd) (p : Ply) (n bb sb : Nat) (w : World) (hb0 : b.Good n) (hs : p.word.size ≤ 1048576) (hE : CEnv w) (hg : BAt w bb 0 b) (hp : PlAt w sb p) :
    Calls Tryz.prog 179 #[.slice (some ⟨sb, 0, none⟩) 1 1, .func (.func 180) #[] #[.pointer (some ⟨bb, 0, none⟩)]] w fun e w' => e = .returned (.bool (!b.okPlay p)) ∧ Below w.heap.size w w' := by
  have HIF := Lib.hid (indexFn_any b p n bb sb w hb0 hs hE hg hp)
  clear hb0 hE hg hp
  cases hk : b.okPlay p with
  | true =>
    rw [hk] at HIF
    go_enter Tryz.func179, Tryz.ntmps179
    go_wp2_with fail
    refine (HIF.out).mono ?_
    rintro e w2 ⟨rfl, hd⟩
    go_wp2
    go_ret
    exact ⟨rfl, hd⟩
  | false =>
    rw [hk] at HIF
    go_enter Tryz.func179, Tryz.ntmps179
    go_wp2_with fail
    refine (HIF.out).mono ?_
    rintro e w2 ⟨rfl, hd⟩
    go_wp2
    go_ret
    exact ⟨rfl, hd⟩
set_option maxRecDepth 100000 in
set_option maxHeartbeats 2000000 in
theorem scorable_any (x : Tls) (q : TlA) (b : Brd) (p : Ply) (sb : Nat) (w : World) (ha : x.At q w) (hft : x.fit) (hxs : x.letters.size ≤ 1048576) (hf : b.fit) (hs : p.word.size ≤ 1048576) (hE : CEnv w) (hp : PlAt w sb p) :
    Calls Tryz.prog 86 #[.agg #[.string x.letters, .slice q.values.a x.values.length q.values.c, .slice q.counts.a x.counts.length q.counts.c, .int .i64 x.blanks], .agg #[.int .i64 b.size, .string b.premium, .string b.cells], .slice (some ⟨sb, 0, none⟩) 1 1] w fun e w' => e = .returned (.bool (x.ok && b.okPlay p)) ∧ Below w.heap.size w w' := by
  obtain ⟨w2, hw2⟩ : ∃ w2, w2 = (w.alloc (.cells #[.string x.letters, .slice q.values.a x.values.length q.values.c, .slice q.counts.a x.counts.length q.counts.c, .int .i64 x.blanks] 44)).alloc (.cells #[.int .i64 b.size, .string b.premium, .string b.cells] 25) := ⟨_, rfl⟩
  have hb : Below w.heap.size w w2 := by rw [hw2]; exact ((Below.refl _ _).alloc (Nat.le_refl _) _).alloc (by simp) _
  have HT : Hid (TAt w2 w.heap.size x q) := by
    rw [hw2]
    exact Lib.hid ((TAt.new w x q 44 ha).kept ((Below.refl _ _).alloc (Nat.le_refl _) _))
  have HG : Hid (BAt w2 (w.heap.size + 1) 0 b) := by
    rw [hw2]
    have := BAt.new (w.alloc (.cells #[.string x.letters, .slice q.values.a x.values.length q.values.c, .slice q.counts.a x.counts.length q.counts.c, .int .i64 x.blanks] 44)) b 25
    simp only [World.size_alloc] at this
    exact Lib.hid this
  have HE := Lib.hid (hE.kept hb)
  have HP := Lib.hid (hp.kept hb)
  have HW2 := Lib.hid hw2
  have HVT : Hid (∀ W, x.At q W → Calls Tryz.prog 102 #[.agg #[.string x.letters, .slice q.values.a x.values.length q.values.c, .slice q.counts.a x.counts.length q.counts.c, .int .i64 x.blanks]] W fun e w' => e = .returned (.bool x.ok) ∧ Below W.heap.size W w') := Lib.hid (fun W h => ValidTiles_any x q W h hft hxs)
  clear hw2 ha hE hp
  cases hx : x.ok with
  | false =>
    rw [hx] at HVT
    go_enter Tryz.func86, Tryz.ntmps86
    go_upto_region 1 with fail
    rw [← HW2.out]
    clear HW2 hx
    obtain ⟨c0, c1, c2, c3⟩ := HT.out.1
    go_wp2_with fail
    refine (HVT.out _ HT.out.2).mono ?_
    rintro e w3 ⟨rfl, hd⟩
    have hb2 := hb.trans (hd.mono hb.size)
    clear hd c0 c1 c2 c3
    go_wp2
    go_ret
    exact ⟨rfl, hb2⟩
  | true =>
    rw [hx] at HVT
    cases hbo : b.ok with
    | false =>
      have HN := Lib.hid (okPlay_bad (p := p) hbo)
      go_enter Tryz.func86, Tryz.ntmps86
      go_upto_region 1 with fail
      rw [← HW2.out]
      clear HW2 hx
      obtain ⟨c0, c1, c2, c3⟩ := HT.out.1
      go_wp2_with fail
      refine (HVT.out _ HT.out.2).mono ?_
      rintro e w3 ⟨rfl, hd⟩
      clear c0 c1 c2 c3
      replace hb := hb.trans (hd.mono hb.size)
      replace HG := Lib.hid (HG.out.kept hd)
      clear hd
      obtain ⟨b0, b1, b2⟩ := HG.out
      go_wp2_with fail
      refine (ValidBoard_any b _ hf).mono ?_
      rintro e w4 ⟨rfl, hd⟩
      rw [hbo]
      have hb2 := hb.trans (hd.mono hb.size)
      clear hd b0 b1 b2 hbo
      go_wp2
      go_ret
      exact ⟨by rw [HN.out]; rfl, hb2⟩
    | true =>
      obtain ⟨n, hgd⟩ := Brd.good hbo
      have HGD := Lib.hid hgd
      clear hgd
      go_enter Tryz.func86, Tryz.ntmps86
      go_upto_region 1 with fail
      rw [← HW2.out]
      clear HW2 hx
      obtain ⟨c0, c1, c2, c3⟩ := HT.out.1
      go_wp2_with fail
      refine (HVT.out _ HT.out.2).mono ?_
      rintro e w3 ⟨rfl, hd⟩
      clear c0 c1 c2 c3
      replace hb := hb.trans (hd.mono hb.size)
      replace HG := Lib.hid (HG.out.kept hd)
      replace HE := Lib.hid (HE.out.kept hd)
      replace HP := Lib.hid (HP.out.kept hd)
      clear hd
      obtain ⟨b0, b1, b2⟩ := HG.out
      go_wp2_with fail
      refine (ValidBoard_any b _ hf).mono ?_
      rintro e w4 ⟨rfl, hd⟩
      rw [hbo]
      clear b0 b1 b2 hbo
      replace hb := hb.trans (hd.mono hb.size)
      replace HG := Lib.hid (HG.out.kept hd)
      replace HE := Lib.hid (HE.out.kept hd)
      replace HP := Lib.hid (HP.out.kept hd)
      clear hd
      go_wp2_with fail
      refine (containsFn_any b p n _ sb _ HGD.out hs HE.out HG.out HP.out).mono ?_
      rintro e w5 ⟨rfl, hd⟩
      have hb2 := hb.trans (hd.mono hb.size)
      clear hd
      go_wp2
      go_ret
      exact ⟨ret_bool (by simp), hb2⟩
end Go.Proofs.YtjdcdhhbgijaoaaGreatDoor

namespace Go.Proofs.YtjdcdhhbgijaoaaGreatDoor
open Go.ChangeShapes Go.WideShapes Go.ChangeAt Go.RowKit Go.Sort

theorem PGood.cross_get {b : Brd} {p : Ply} {n : Nat} (h : PGood b p n) {i j : Nat} (hj : j < (crossS b p i).length) : (crossS b p i)[j] = dirSq (!p.down) (p.sr i) (p.sc i) ((j : Int) - (upL (b.view p) (p.c + i) 16 (p.r - 1)).length) := by
  have hu := h.seqU_eq i
  have e : (crossS b p i)[j] = dirSq (!p.down) (p.sr i) (p.sc i) ((j : Int) - seqU (b.made p) (!p.down) (p.sr i) (p.sc i)) := by
    simp only [crossS, seqL, List.getElem_map, List.getElem_range]
  rw [e, hu]
/-- one square of a word across is the one on which a letter is placed -/
theorem PGood.cross_at {b : Brd} {p : Ply} {n : Nat} (h : PGood b p n) {i j : Nat} (hj : j < (crossS b p i).length) : (crossS b p i)[j] = sqOf p i ↔ j = (upL (b.view p) (p.c + i) 16 (p.r - 1)).length := by
  rw [h.cross_get hj]
  generalize (upL (b.view p) (p.c + i) 16 (p.r - 1)).length = u
  unfold dirSq sqOf
  generalize p.sr i = sr
  generalize p.sc i = sc
  cases p.down with
  | false =>
    simp only [Bool.not_false, if_true, Prod.mk.injEq, and_true]
    omega
  | true =>
    simp only [Bool.not_true, Bool.false_eq_true, if_false, Prod.mk.injEq, true_and]
    omega
theorem PGood.cross_cell {b : Brd} {p : Ply} {n : Nat} (h : PGood b p n) {i j : Nat} (hi : i < p.word.size) (hj : j < (crossS b p i).length) : (b.made p).cell ((crossS b p i)[j]).1 ((crossS b p i)[j]).2 = (crossW (b.view p) p.r (p.c + i) (p.word.data.toList.getD i 0)).getD j 0 := by
  have hl := h.cross_letters hi
  rw [← hl]
  unfold lettersOf
  rw [List.getD_eq_getElem?_getD, List.getElem?_map, List.getElem?_eq_getElem hj]
  rfl
/-- what a square of a word across scores -/
def sqA (b : Brd) (p : Ply) (x : Tls) (i j : Nat) (hj : j < (crossS b p i).length) : Int :=
  if (crossS b p i)[j] = sqOf p i then letS (x.val ((b.made p).cell ((crossS b p i)[j]).1 ((crossS b p i)[j]).2)) (b.prm (p.sr i) (p.sc i)) else x.val ((b.made p).cell ((crossS b p i)[j]).1 ((crossS b p i)[j]).2)
theorem PGood.cross_score {b : Brd} {p : Ply} {n : Nat} (h : PGood b p n) (x : Tls) {i j : Nat} (hi : i < p.word.size) (hj : j < (crossS b p i).length) : sqA b p x i j hj = croA x (crossW (b.view p) p.r (p.c + i) (p.word.data.toList.getD i 0)) (upL (b.view p) (p.c + i) 16 (p.r - 1)).length (letS (x.val (p.word.data.toList.getD i 0)) (b.pview p p.r (p.c + i))) j := by
  unfold sqA croA
  rw [h.cross_cell hi hj, h.prm_sq hi]
  by_cases e : j = (upL (b.view p) (p.c + i) 16 (p.r - 1)).length
  · rw [if_pos ((h.cross_at hj).2 e), if_pos e]
    have hl : j < (crossW (b.view p) p.r (p.c + i) (p.word.data.toList.getD i 0)).length := by rw [← h.cross_len i]; exact hj
    congr 2
    rw [List.getD_eq_getElem?_getD, List.getElem?_eq_getElem hl]
    subst e
    exact crossW_mid hl
  · rw [if_neg (fun k => e ((h.cross_at hj).1 k)), if_neg e]
theorem PGood.scoring_eq {b : Brd} {p : Ply} {n : Nat} (h : PGood b p n) (is : List Nat) : scoring (b.view p) p.r p.c p.word.data.toList is = crossTo b p is := by
  unfold scoring crossTo
  refine List.filter_congr fun i _ => ?_
  have := h.cross_len i (p.word.data.toList.getD i 0)
  rw [this]
  rw [decide_eq_decide]
  omega
/-- the parts, over the squares of the words across -/
theorem PGood.parts_cross {b : Brd} {p : Ply} {n : Nat} (h : PGood b p n) (x : Tls) : b.parts p x = mainA x (b.view p) (b.pview p) p.r p.c p.word.data.toList p.word.size (b.fresh p) :: (crossTo b p (b.fresh p)).map (partA x (b.view p) (b.pview p) p.r p.c p.word.data.toList) := by
  unfold Brd.parts partsA
  rw [h.scoring_eq]
/-- the main word's score, by the program's lists -/
theorem PGood.main_parts {b : Brd} {p : Ply} {n : Nat} (h : PGood b p n) (x : Tls) : mainA x (b.view p) (b.pview p) p.r p.c p.word.data.toList p.word.size (b.fresh p) = (lettersA x (b.view p) (b.pview p) p.r p.c p.word.data.toList p.word.size).sum * facL ((b.fresh p).map fun i : Nat => b.prm (p.sr i) (p.sc i)) := by
  unfold mainA lettersA sumTo
  congr 1
  rw [← facL_fresh]
  congr 1
  refine List.map_congr_left fun i hi => ?_
  exact h.prm_sq (freshL_lt hi).1
end Go.Proofs.YtjdcdhhbgijaoaaGreatDoor

namespace Go.Proofs.YtjdcdhhbgijaoaaGreatDoor
open Go.ChangeShapes Go.WideShapes Go.ChangeAt Go.RowKit Go.Sort

/-- what lies in memory while the words across are scored -/
structure Held (w : World) (x : Tls) (q : TlA) (b af : Brd) (B0 ga gat cat gws cws base m : Nat) (ats : List (Int × Int)) (sq : Nat → List (Int × Int)) (es : List Ent) : Prop where
  t : VarAt w B0 44 [.string x.letters, .slice q.values.a x.values.length q.values.c, .slice q.counts.a x.counts.length q.counts.c, .int .i64 x.blanks]
  b : VarAt w (B0 + 1) 25 [.int .i64 b.size, .string b.premium, .string b.cells]
  af : VarAt w ga 25 [.int .i64 af.size, .string af.premium, .string af.cells]
  ats : w.ownsRow base 73 2 (.slice (some ⟨gat, 0, none⟩) m cat) m (ats.flatMap Sq.enc)
  ws : w.ownsRow base 65 1 (.slice (some ⟨gws, 0, none⟩) m cws) m (es.flatMap (Ent.enc sq))
  es : EntsAt w base sq es
theorem Held.kept {w w' : World} {x : Tls} {q : TlA} {b af : Brd} {B0 ga gat cat gws cws base m : Nat} {ats : List (Int × Int)} {sq : Nat → List (Int × Int)} {es : List Ent} (h : Held w x q b af B0 ga gat cat gws cws base m ats sq es) (hb : Below w.heap.size w w') : Held w' x q b af B0 ga gat cat gws cws base m ats sq es :=
  ⟨h.t.kept hb, h.b.kept hb, h.af.kept hb, own_below h.ats hb, own_below h.ws hb, h.es.kept hb⟩
theorem Held.grown {w w' : World} {x : Tls} {q : TlA} {b af : Brd} {B0 ga gat cat gws cws base m : Nat} {ats : List (Int × Int)} {sq : Nat → List (Int × Int)} {es : List Ent} (h : Held w x q b af B0 ga gat cat gws cws base m ats sq es) {g : Nat} (hg : w.grownBy w' (some g)) (h1 : B0 + 1 < g) (h2 : ga ≠ g) (h3 : gat ≠ g) (h4 : gws ≠ g) (h5 : ∀ e ∈ es, e.g ≠ g) : Held w' x q b af B0 ga gat cat gws cws base m ats sq es :=
  ⟨h.t.grown hg (by simp; omega), h.b.grown hg (by simp; omega), h.af.grown hg (by simp; omega), h.ats.kept hg (.inr (by simp [Value.ownBlock]; omega)), h.ws.kept hg (.inr (by simp [Value.ownBlock]; omega)), h.es.grown hg h5⟩
set_option maxRecDepth 100000 in
set_option maxHeartbeats 8000000 in
theorem scoreParts_any (x : Tls) (q : TlA) (b : Brd) (p : Ply) (n : Nat) (w : World) (ha : x.At q w) (hx : x.Good) (hp : PGood b p n) :
    Calls Tryz.prog 90 #[.agg #[.string x.letters, .slice q.values.a x.values.length q.values.c, .slice q.counts.a x.counts.length q.counts.c, .int .i64 x.blanks], .agg #[.int .i64 b.size, .string b.premium, .string b.cells], .agg #[.int .i64 p.row, .int .i64 p.col, .bool p.down, .string p.word]] w (NumsPost w (b.parts p x)) := by
  obtain ⟨i0, hi0, hi1, hi2, hi3⟩ := info_parts infoI64
  obtain ⟨w2, hw2⟩ : ∃ w2, w2 = ((w.alloc (.cells #[.string x.letters, .slice q.values.a x.values.length q.values.c, .slice q.counts.a x.counts.length q.counts.c, .int .i64 x.blanks] 44)).alloc (.cells #[.int .i64 b.size, .string b.premium, .string b.cells] 25)).alloc (.cells #[.int .i64 p.row, .int .i64 p.col, .bool p.down, .string p.word] 30) := ⟨_, rfl⟩
  have hb : Below w.heap.size w w2 := by rw [hw2]; exact (((Below.refl _ _).alloc (Nat.le_refl _) _).alloc (by simp) _).alloc (by simp; omega) _
  have hw2s : w2.heap.size = w.heap.size + 3 := by rw [hw2]; simp
  have VT : Hid (VarAt w2 w.heap.size 44 [.string x.letters, .slice q.values.a x.values.length q.values.c, .slice q.counts.a x.counts.length q.counts.c, .int .i64 x.blanks]) := by
    rw [hw2]
    exact Lib.hid (((VarAt.new w 44 [.string x.letters, .slice q.values.a x.values.length q.values.c, .slice q.counts.a x.counts.length q.counts.c, .int .i64 x.blanks]).kept ((Below.refl _ _).alloc (Nat.le_refl _) _)).kept ((Below.refl _ _).alloc (Nat.le_refl _) _))
  have VB : Hid (VarAt w2 (w.heap.size + 1) 25 [.int .i64 b.size, .string b.premium, .string b.cells]) := by
    rw [hw2]
    have := (VarAt.new (w.alloc (.cells #[.string x.letters, .slice q.values.a x.values.length q.values.c, .slice q.counts.a x.counts.length q.counts.c, .int .i64 x.blanks] 44)) 25 [.int .i64 b.size, .string b.premium, .string b.cells]).kept ((Below.refl _ _).alloc (Nat.le_refl _) (.cells #[.int .i64 p.row, .int .i64 p.col, .bool p.down, .string p.word] 30))
    simp only [World.size_alloc] at this
    exact Lib.hid this
  have VP : Hid (VarAt w2 (w.heap.size + 2) 30 [.int .i64 p.row, .int .i64 p.col, .bool p.down, .string p.word]) := by
    rw [hw2]
    have := VarAt.new ((w.alloc (.cells #[.string x.letters, .slice q.values.a x.values.length q.values.c, .slice q.counts.a x.counts.length q.counts.c, .int .i64 x.blanks] 44)).alloc (.cells #[.int .i64 b.size, .string b.premium, .string b.cells] 25)) 30 [.int .i64 p.row, .int .i64 p.col, .bool p.down, .string p.word]
    simp only [World.size_alloc] at this
    exact Lib.hid this
  have HA := Lib.hid ha
  have h12 := hp.twelve
  have hfl : (b.fresh p).length ≤ p.word.size := freshL_len _ _ _ _
  have HLT0 : Hid (∀ W, x.At q W → Calls Tryz.prog 93 #[.agg #[.string x.letters, .slice q.values.a x.values.length q.values.c, .slice q.counts.a x.counts.length q.counts.c, .int .i64 x.blanks], .agg #[.int .i64 b.size, .string b.premium, .string b.cells], .agg #[.int .i64 p.row, .int .i64 p.col, .bool p.down, .string p.word]] W (NumsPost W (lettersA x (b.view p) (b.pview p) p.r p.c p.word.data.toList p.word.size))) := Lib.hid (fun W h => letterScores_any x q b p n W h hx hp)
  have HPU : Hid (∀ W, Calls Tryz.prog 96 #[.agg #[.int .i64 b.size, .string b.premium, .string b.cells], .agg #[.int .i64 p.row, .int .i64 p.col, .bool p.down, .string p.word]] W (BytesPost W ((b.fresh p).map fun i : Nat => b.prm (p.sr i) (p.sc i)))) := Lib.hid (fun W => premiumsUsed_any b p n W hp)
  have HMM := Lib.hid (hp.main_parts x)
  have hmr := mainA_range hx (b.view p) (b.pview p) p.r p.c p.word.data.toList (k := p.word.size) (is := b.fresh p) h12 (by omega)
  have HPC := Lib.hid (hp.parts_cross x)
  have HLR : Hid (∀ v ∈ lettersA x (b.view p) (b.pview p) p.r p.c p.word.data.toList p.word.size, 0 ≤ v ∧ v ≤ 60) := Lib.hid (fun v hv => by
    unfold lettersA at hv
    obtain ⟨i, _, rfl⟩ := List.mem_map.1 hv
    exact letA_range hx _ _ _ _ _ _)
  have HLL : Hid ((lettersA x (b.view p) (b.pview p) p.r p.c p.word.data.toList p.word.size).length = p.word.size) := Lib.hid (lettersA_len _ _ _ _ _ _ _)
  have HPL : Hid (((b.fresh p).map fun i : Nat => b.prm (p.sr i) (p.sc i)).length ≤ 12) := Lib.hid (by rw [List.length_map]; omega)
  have HPG := Lib.hid hp
  have HW2 := Lib.hid hw2
  have HWS := Lib.hid hw2s
  clear hw2 hw2s hp ha
  generalize hmm : mainA x (b.view p) (b.pview p) p.r p.c p.word.data.toList p.word.size (b.fresh p) = mm at *
  clear hmm
  generalize lettersA x (b.view p) (b.pview p) p.r p.c p.word.data.toList p.word.size = ls at *
  generalize (b.fresh p).map (fun i : Nat => b.prm (p.sr i) (p.sc i)) = us at *
  have HR : Hid (∀ k, k < ls.length → ∃ v : Int, 0 ≤ v ∧ v ≤ 60 ∧ (ls.take (k + 1)).sum = (ls.take k).sum + v ∧ ∀ (W : World) gx cx, W.ownsRow w.heap.size 2 1 (.slice (some ⟨gx, 0, none⟩) ls.length cx) ls.length (ls.flatMap I64.enc) → W.cell? ⟨gx, k, none⟩ = some (.int .i64 v)) := Lib.hid (fun k h => ⟨ls[k], (HLR.out _ (List.getElem_mem _)).1, (HLR.out _ (List.getElem_mem _)).2, sum_take_get h, fun W gx cx hx => num_row hx h⟩)
  go_enter Tryz.func90, Tryz.ntmps90
  go_upto_region 2 with fail
  rw [← HW2.out]
  clear HW2
  have t0 := VT.out.cell (i := 0) rfl
  have t1 := VT.out.cell (i := 1) rfl
  have t2 := VT.out.cell (i := 2) rfl
  have t3 := VT.out.cell (i := 3) rfl
  have b0 := VB.out.cell (i := 0) rfl
  have b1 := VB.out.cell (i := 1) rfl
  have b2 := VB.out.cell (i := 2) rfl
  have p0 := VP.out.cell (i := 0) rfl
  have p1 := VP.out.cell (i := 1) rfl
  have p2 := VP.out.cell (i := 2) rfl
  have p3 := VP.out.cell (i := 3) rfl
  go_wp2_with fail
  refine (HLT0.out _ (HA.out.kept hb)).mono ?_
  rintro e w5 ⟨gl, cl, rfl, hl0, hd⟩
  have hz := hb.size
  have HX := Lib.hid (own_mono hl0 (show w.heap.size ≤ _ by omega))
  have hz5 : w.heap.size + 3 ≤ w5.heap.size := by have := hd.size; have := HWS.out; omega
  clear hl0 t0 t1 t2 t3 b0 b1 b2 p0 p1 p2 p3 HLT0 HWS
  replace hb := hb.trans (hd.mono hb.size)
  replace VT := Lib.hid (VT.out.kept hd)
  replace VB := Lib.hid (VB.out.kept hd)
  replace VP := Lib.hid (VP.out.kept hd)
  clear hd
  rw [HLL.out] at HX ⊢
  go_wp2_with fail
  go_loopw [7, 25] (fun tv iv wr => ∃ (k : Nat) (t : Int), k ≤ p.word.size ∧ iv = .int .i64 k ∧ tv = .int .i64 t ∧ 0 ≤ t ∧ t ≤ 60 * k ∧ Hid (t = (ls.take k).sum) ∧ w5 = wr) (fun _ iv _ => p.word.size - (intOf iv).toNat)
  case atStart => exact ⟨0, 0, Nat.zero_le _, rfl, rfl, by omega, by omega, Lib.hid (by simp), by trivial⟩
  case round =>
    obtain ⟨k, t, hk, rfl, rfl, ht0, ht1, HT, hw⟩ := hrel
    subst hw
    by_cases hkm : k < p.word.size
    · obtain ⟨v, hv0, hv1, hvs, hvc⟩ := HR.out k (by rw [HLL.out]; exact hkm)
      rw [HLL.out] at hvc
      have cv := hvc _ _ _ HX.out
      have HT2 : Hid (t + v = (ls.take (k + 1)).sum) := Lib.hid (by rw [hvs, HT.out])
      have hw5 : IntKind.i64.wrap (t + v) = t + v := IntWalk.i64_in _ (by omega)
      clear hvs hvc HT
      go_wp2
      go_roundw
      case rel => exact ⟨k + 1, t + v, by omega, by go_num, rfl, by omega, by omega, HT2, by trivial⟩
      case measure => simp [intOf]; omega
    · obtain rfl : k = p.word.size := by omega
      have hT := HT.out
      rw [List.take_of_length_le (by rw [HLL.out]; exact Nat.le_refl _)] at hT
      have HTM : Hid (t * facL us = mm) := Lib.hid (by rw [HMM.out, hT])
      clear hT HT HR HLR HX
      have b0 := VB.out.cell (i := 0) rfl
      have b1 := VB.out.cell (i := 1) rfl
      have b2 := VB.out.cell (i := 2) rfl
      have p0 := VP.out.cell (i := 0) rfl
      have p1 := VP.out.cell (i := 1) rfl
      have p2 := VP.out.cell (i := 2) rfl
      have p3 := VP.out.cell (i := 3) rfl
      go_wp2_with fail
      refine (HPU.out _).mono ?_
      rintro e w6 ⟨gp, cp, rfl, hpu, hd⟩
      have SU := Lib.hid (own_slice U8.enc_len hpu rfl)
      have hz6 := Nat.le_trans hz5 hd.size
      clear hpu b0 b1 b2 p0 p1 p2 p3 HPU
      replace hb := hb.trans (hd.mono hb.size)
      replace VT := Lib.hid (VT.out.kept hd)
      replace VB := Lib.hid (VB.out.kept hd)
      replace VP := Lib.hid (VP.out.kept hd)
      clear hd
      go_wp2_with fail
      refine (wordFactor_any us _ _ _ SU.out HPL.out).mono ?_
      rintro e w7 ⟨rfl, hd⟩
      have hz7 := Nat.le_trans hz6 hd.size
      replace hb := hb.trans (hd.mono hb.size)
      replace VT := Lib.hid (VT.out.kept hd)
      replace VB := Lib.hid (VB.out.kept hd)
      replace VP := Lib.hid (VP.out.kept hd)
      clear hd
      generalize facL us = fu at *
      have hw6 : IntKind.i64.wrap (t * fu) = mm := by rw [HTM.out]; exact IntWalk.i64_in _ (by omega)
      clear SU
      have HO : Hid ((w7.alloc (.cells #[.int .i64 mm] 2)).ownsRow (w.heap.size + 3) 2 1 (.slice (some ⟨w7.heap.size, 0, none⟩) 1 1) 1 [.int .i64 mm]) := Lib.hid (own_new_num w7 mm 2 (w.heap.size + 3) hz7)
      have hd : Below w7.heap.size w7 (w7.alloc (.cells #[.int .i64 mm] 2)) := (Below.refl _ _).alloc (Nat.le_refl _) _
      go_upto_region 8 with fail
      replace hb := hb.trans (hd.mono hb.size)
      replace VT := Lib.hid (VT.out.kept hd)
      replace VB := Lib.hid (VB.out.kept hd)
      replace VP := Lib.hid (VP.out.kept hd)
      clear hd
      have hg8 : w7.heap.size < (w7.alloc (.cells #[.int .i64 mm] 2)).heap.size := by simp
      generalize w7.alloc (.cells #[.int .i64 mm] 2) = w8 at *
      generalize w7.heap.size = go1 at *
      have HMD : Hid (∀ W, Calls Tryz.prog 84 #[.agg #[.int .i64 b.size, .string b.premium, .string b.cells], .agg #[.int .i64 p.row, .int .i64 p.col, .bool p.down, .string p.word]] W fun e w' => e = .returned (.agg #[.int .i64 (b.made p).size, .string (b.made p).premium, .string (b.made p).cells]) ∧ Below W.heap.size W w') := Lib.hid (fun W => made_any b p n W HPG.out)
      have HCR : Hid (∀ W, Calls Tryz.prog 176 #[.agg #[.int .i64 b.size, .string b.premium, .string b.cells], .agg #[.int .i64 p.row, .int .i64 p.col, .bool p.down, .string p.word]] W (CrossPost (crossS b p) (sqOf p) (crossTo b p (b.fresh p)) W)) := Lib.hid (fun W => crossings_any b p n W HPG.out)
      have HCE : Hid (∀ r c W, Calls Tryz.prog 129 #[.agg #[.int .i64 (b.made p).size, .string (b.made p).premium, .string (b.made p).cells], .int .i64 r, .int .i64 c] W fun e w' => e = .returned (.int .u8 (((b.made p).cell r c).toNat : Int)) ∧ Below W.heap.size W w') := Lib.hid (fun r c W => cell_any (b.made p) n r c W HPG.out.made_good)
      have HIS : Hid (∀ i ∈ crossTo b p (b.fresh p), i < p.word.size) := Lib.hid (fun i h => (freshL_lt (List.mem_filter.1 h).1).1)
      have b0 := VB.out.cell (i := 0) rfl
      have b1 := VB.out.cell (i := 1) rfl
      have b2 := VB.out.cell (i := 2) rfl
      have p0 := VP.out.cell (i := 0) rfl
      have p1 := VP.out.cell (i := 1) rfl
      have p2 := VP.out.cell (i := 2) rfl
      have p3 := VP.out.cell (i := 3) rfl
      go_wp2_with fail
      refine (HMD.out _).mono ?_
      rintro e w9 ⟨rfl, hd⟩
      have hg9 := Nat.lt_of_lt_of_le hg8 hd.size
      clear b0 b1 b2 p0 p1 p2 p3 HMD
      replace hb := hb.trans (hd.mono hb.size)
      replace HO := Lib.hid (own_below HO.out hd)
      replace VT := Lib.hid (VT.out.kept hd)
      replace VB := Lib.hid (VB.out.kept hd)
      replace VP := Lib.hid (VP.out.kept hd)
      clear hd
      have VA := Lib.hid (VarAt.new w9 25 [.int .i64 (b.made p).size, .string (b.made p).premium, .string (b.made p).cells])
      have hd : Below w9.heap.size w9 (w9.alloc (.cells #[.int .i64 (b.made p).size, .string (b.made p).premium, .string (b.made p).cells] 25)) := (Below.refl _ _).alloc (Nat.le_refl _) _
      have hza := VA.out.lt
      replace hb := hb.trans (hd.mono hb.size)
      replace HO := Lib.hid (own_below HO.out hd)
      replace VT := Lib.hid (VT.out.kept hd)
      replace VB := Lib.hid (VB.out.kept hd)
      replace VP := Lib.hid (VP.out.kept hd)
      clear hd
      have b0 := VB.out.cell (i := 0) rfl
      have b1 := VB.out.cell (i := 1) rfl
      have b2 := VB.out.cell (i := 2) rfl
      have p0 := VP.out.cell (i := 0) rfl
      have p1 := VP.out.cell (i := 1) rfl
      have p2 := VP.out.cell (i := 2) rfl
      have p3 := VP.out.cell (i := 3) rfl
      go_wp2_with fail
      refine (HCR.out _).mono ?_
      rintro e w10 ⟨es, gat, cat, gws, cws, hes, rfl, hrat, hrws, hents, hd⟩
      have hgat := (hrat.lt gat rfl)
      have hgws := (hrws.lt gws rfl)
      have hges : ∀ e ∈ es, w9.heap.size < e.g ∧ e.g < w10.heap.size := fun e he => by
        have := (hents e he).lt e.g rfl
        omega
      have hz8 := VT.out.lt
      have hzb := hb.size
      have hz10 := hd.size
      have HATS := Lib.hid (own_mono hrat (show w.heap.size ≤ _ by omega))
      have HWS := Lib.hid (own_mono hrws (show w.heap.size ≤ _ by omega))
      have HES := Lib.hid (hents.mono (show w.heap.size ≤ _ by omega))
      clear b0 b1 b2 p0 p1 p2 p3 HCR hrat hrws hents VP
      replace hb := hb.trans (hd.mono hb.size)
      replace HO := Lib.hid (own_below HO.out hd)
      replace VT := Lib.hid (VT.out.kept hd)
      replace VB := Lib.hid (VB.out.kept hd)
      replace VA := Lib.hid (VA.out.kept hd)
      clear hd
      have HH : Hid (Held w10 x q b (b.made p) w.heap.size w9.heap.size gat cat gws cws w.heap.size es.length (es.map fun e => sqOf p e.i) (crossS b p) es) := Lib.hid ⟨VT.out, VB.out, VA.out, HATS.out, HWS.out, HES.out⟩
      clear VT VB VA HATS HWS HES
      obtain ⟨pa, hpa⟩ : ∃ pa : Nat → Int, ∀ i, pa i = partA x (b.view p) (b.pview p) p.r p.c p.word.data.toList i := ⟨_, fun _ => rfl⟩
      have HPR2 : Hid (∀ i, 0 ≤ pa i ∧ pa i ≤ 5940) := Lib.hid (fun i => by rw [hpa]; exact partA_range hx _ _ _ _ _ _)
      have HPLE : Hid (b.parts p x = mm :: es.map fun e => pa e.i) := Lib.hid (by
        rw [HPC.out, ← hes, List.map_map]
        congr 1
        refine List.map_congr_left fun e _ => (hpa e.i).symm)
      have HFJ : Hid (∀ i, i < p.word.size → ∃ f : Nat → Int, pa i = sumTo f (crossS b p i).length * facP (b.prm (p.sr i) (p.sc i)) ∧ (∀ j, 0 ≤ f j ∧ f j ≤ 60) ∧ ∀ j s, (crossS b p i)[j]? = some s → f j = if s = sqOf p i then letS (x.val ((b.made p).cell s.1 s.2)) (b.prm (p.sr i) (p.sc i)) else x.val ((b.made p).cell s.1 s.2)) := Lib.hid (fun i hi => by
        refine ⟨croA x (crossW (b.view p) p.r (p.c + i) (p.word.data.toList.getD i 0)) (upL (b.view p) (p.c + i) 16 (p.r - 1)).length (letS (x.val (p.word.data.toList.getD i 0)) (b.pview p p.r (p.c + i))), ?_, fun j => croA_range hx (letS_range (hx.val_range _)) j, fun j s h => ?_⟩
        · rw [hpa]
          unfold partA crossSum
          rw [HPG.out.cross_len i (p.word.data.toList.getD i 0), HPG.out.prm_sq hi]
        · obtain ⟨hj, rfl⟩ := List.getElem?_eq_some_iff.1 h
          rw [← HPG.out.cross_score x hi hj]
          rfl)
      have HLE : Hid (∀ i, i < p.word.size → (crossS b p i).length ≤ 31) := Lib.hid (fun i h => HPG.out.cross_le h)
      have HPRM : Hid (∀ i : Nat, i < p.word.size → ∀ W, Calls Tryz.prog 183 #[.agg #[.int .i64 b.size, .string b.premium, .string b.cells], .int .i64 (p.sr i), .int .i64 (p.sc i)] W fun e w' => e = .returned (.int .u8 ((b.prm (p.sr i) (p.sc i)).toNat : Int)) ∧ Below W.heap.size W w') := Lib.hid (fun i h W => premium_any b n _ _ W HPG.out.good (HPG.out.good.inB.2 (HPG.out.sq_in h)))
      have HLSC : Hid (∀ (y pr : UInt8) W, x.At q W → Calls Tryz.prog 184 #[.agg #[.string x.letters, .slice q.values.a x.values.length q.values.c, .slice q.counts.a x.counts.length q.counts.c, .int .i64 x.blanks], .int .u8 (y.toNat : Int), .int .u8 (pr.toNat : Int)] W fun e w' => e = .returned (.int .i64 (letS (x.val y) pr)) ∧ Below W.heap.size W w') := Lib.hid (fun y pr W h => letterScore_any x q y pr W h hx)
      have HVO : Hid (∀ (y : UInt8) W, x.At q W → Calls Tryz.prog 185 #[.agg #[.string x.letters, .slice q.values.a x.values.length q.values.c, .slice q.counts.a x.counts.length q.counts.c, .int .i64 x.blanks], .int .u8 (y.toNat : Int)] W fun e w' => e = .returned (.int .i64 (x.val y)) ∧ Below W.heap.size W w') := Lib.hid (fun y W h => valueOf_any x q y W h hx)
      have HEI : Hid (∀ e ∈ es, e.i < p.word.size) := Lib.hid (fun e he => HIS.out _ (by rw [← hes]; exact List.mem_map_of_mem he))
      have hem : es.length ≤ 12 := by
        have h1 := congrArg List.length hes
        rw [List.length_map] at h1
        have h2 : (crossTo b p (b.fresh p)).length ≤ (b.fresh p).length := List.length_filter_le _ _
        omega
      have HTK : Hid (∀ k e, es[k]? = some e → (b.parts p x).take (k + 1 + 1) = (b.parts p x).take (k + 1) ++ [pa e.i]) := Lib.hid (fun k e h => by
        obtain ⟨hk, rfl⟩ := List.getElem?_eq_some_iff.1 h
        rw [HPLE.out, List.take_succ_eq_append_getElem (by simp; omega)]
        simp)
      have HT1 : Hid ((b.parts p x).take 1 = [mm]) := Lib.hid (by rw [HPLE.out]; rfl)
      have HTL : Hid ((b.parts p x).length = es.length + 1) := Lib.hid (by rw [HPLE.out]; simp)
      clear hes hpa HIS HPC HPLE
      generalize b.made p = af at *
      generalize crossS b p = sq at *
      generalize b.parts p x = PL at *
      have HGN := Lib.hid (show go1 < w9.heap.size ∧ w9.heap.size < w10.heap.size ∧ (w9.heap.size < gat ∧ gat < w10.heap.size) ∧ (w9.heap.size < gws ∧ gws < w10.heap.size) from by omega)
      have HGE := Lib.hid hges
      clear hges hgat hgws hz8 hza
      generalize w9.heap.size = ga at *
      generalize hN : w10.heap.size = N at *
      have hNle : N ≤ w10.heap.size := by omega
      generalize hml : es.length = m at *
      have HML := Lib.hid hml
      clear hml hN
      go_wp2_with fail
      go_loopw [10, 51] (fun ov iv wr => ∃ (k g1 cap : Nat), k ≤ m ∧ iv = .int .i64 k ∧ ov = .slice (some ⟨g1, 0, none⟩) (k + 1) cap ∧ (g1 = go1 ∨ N ≤ g1) ∧ N ≤ wr.heap.size ∧ Hid (wr.ownsRow (w.heap.size + 3) 2 1 (.slice (some ⟨g1, 0, none⟩) (k + 1) cap) (k + 1) ((PL.take (k + 1)).flatMap I64.enc)) ∧ Hid (Held wr x q b af w.heap.size ga gat cat gws cws w.heap.size m (es.map fun e => sqOf p e.i) sq es) ∧ Below w.heap.size w wr) (fun _ iv _ => m - (intOf iv).toNat)
      case atStart => exact ⟨0, _, 1, Nat.zero_le _, rfl, rfl, .inl rfl, hNle, Lib.hid (by rw [HT1.out]; exact HO.out), HH, hb⟩
      case round =>
        clear HO HH hb hNle
        obtain ⟨k, g1, cap, hk, rfl, rfl, hg1, hNr, HO, HH, hb⟩ := hrel
        by_cases hkm : k < m
        · have hke : k < es.length := by rw [HML.out]; exact hkm
          have x0 := row_ent HH.out.ws hke
          have HQ := Lib.hid (HH.out.es _ (List.getElem_mem hke))
          have HAC : Hid (∀ W, Held W x q b af w.heap.size ga gat cat gws cws w.heap.size m (es.map fun e => sqOf p e.i) sq es → W.cell? ⟨gat, k * 2, none⟩ = some (.int .i64 (sqOf p es[k].i).1) ∧ W.cell? ⟨gat, k * 2 + 1, none⟩ = some (.int .i64 (sqOf p es[k].i).2)) := Lib.hid (fun W h => by
            have := row_sq h.ats (k := k) (by rw [List.length_map]; exact hke)
            rw [List.getElem_map] at this
            exact this)
          have HTK2 := Lib.hid (HTK.out k _ (List.getElem?_eq_getElem hke))
          have hei := HEI.out _ (List.getElem_mem hke)
          have hge := HGE.out _ (List.getElem_mem hke)
          generalize es[k] = en at *
          obtain ⟨i, gq, cq⟩ := en
          simp only at x0 HQ HTK2 hei hge
          have HAC : Hid (∀ W, Held W x q b af w.heap.size ga gat cat gws cws w.heap.size m (es.map fun e => sqOf p e.i) sq es → W.cell? ⟨gat, k * 2, none⟩ = some (.int .i64 (p.sr i)) ∧ W.cell? ⟨gat, k * 2 + 1, none⟩ = some (.int .i64 (p.sc i))) := HAC
          obtain ⟨f, hpf, hf60, hfj⟩ := HFJ.out i hei
          have hfj : ∀ (j : Nat) (s : Int × Int), (sq i)[j]? = some s → f j = if s = (p.sr i, p.sc i) then letS (x.val (af.cell s.1 s.2)) (b.prm (p.sr i) (p.sc i)) else x.val (af.cell s.1 s.2) := hfj
          have HPF := Lib.hid hpf
          have HFR := Lib.hid hf60
          have HFJ2 := Lib.hid hfj
          have hl31 := HLE.out i hei
          have HPI := Lib.hid (HPRM.out i hei)
          have hpv := HPR2.out i
          have hfr := facP_range (b.prm (p.sr i) (p.sc i))
          clear hpf hf60 hfj
          generalize pa i = pv at *
          generalize sq i = qs at *
          generalize b.prm (p.sr i) (p.sc i) = pr at *
          generalize p.sr i = sr at *
          generalize p.sc i = sc at *
          go_upto_region 13 with fail
          clear x0
          have hd : Below wr.heap.size wr wr.drew := (Below.refl _ _).drew
          replace HQ := Lib.hid (own_below HQ.out hd)
          replace hNr := Nat.le_trans hNr hd.size
          replace hb := hb.trans (hd.mono hb.size)
          replace HO := Lib.hid (own_below HO.out hd)
          replace HH := Lib.hid (HH.out.kept hd)
          clear hd
          go_region_held3 (fun w' => w'.cell? ⟨w.heap.size + 1, 0, none⟩ = some (.int .i64 b.size) ∧ w'.cell? ⟨w.heap.size + 1, 1, none⟩ = some (.string b.premium) ∧ w'.cell? ⟨w.heap.size + 1, 2, none⟩ = some (.string b.cells) ∧ w'.cell? ⟨gat, k * 2, none⟩ = some (.int .i64 sr) ∧ w'.cell? ⟨gat, k * 2 + 1, none⟩ = some (.int .i64 sc))
            (exact ⟨HH.out.b.cell (i := 0) rfl, HH.out.b.cell (i := 1) rfl, HH.out.b.cell (i := 2) rfl, (HAC.out _ HH.out).1, (HAC.out _ HH.out).2⟩)
            ((go_at_call 183; refine (HPI.out _).mono ?_; rintro e wq ⟨rfl, hd⟩; replace HQ := Lib.hid (own_below HQ.out hd); replace hNr := Nat.le_trans hNr hd.size; replace HH := Lib.hid (HH.out.kept hd); replace HO := Lib.hid (own_below HO.out hd); replace hb := hb.trans (hd.mono hb.size); clear hd))
          generalize wq = wa at *
          go_wp2_with fail
          go_loopw [17, 70] (fun tv jv wv => ∃ (j : Nat) (t : Int), j ≤ qs.length ∧ jv = .int .i64 j ∧ tv = .int .i64 t ∧ 0 ≤ t ∧ t ≤ 60 * j ∧ Hid (t = sumTo f j) ∧ Below wa.heap.size wa wv) (fun _ jv _ => qs.length - (intOf jv).toNat)
          case atStart => exact ⟨0, 0, Nat.zero_le _, rfl, rfl, by omega, by omega, Lib.hid (sumTo_zero f).symm, Below.refl _ _⟩
          case round =>
            obtain ⟨j, t, hj, rfl, rfl, ht0, ht1, HT, hbv⟩ := hrel
            by_cases hjl : j < qs.length
            · obtain ⟨x0, x1⟩ := row_sq (own_below HQ.out hbv) hjl
              have HFJ3 := Lib.hid (HFJ2.out j _ (List.getElem?_eq_getElem hjl))
              have hfr2 := HFR.out j
              have HT2 : Hid (t + f j = sumTo f (j + 1)) := Lib.hid (by rw [sumTo_succ, HT.out])
              clear HT
              generalize qs[j] = sj at *
              obtain ⟨s1, s2⟩ := sj
              simp only at x0 x1 HFJ3
              have HFJ3 : Hid (f j = if (s1, s2) = (sr, sc) then letS (x.val (af.cell s1 s2)) pr else x.val (af.cell s1 s2)) := HFJ3
              go_upto_region 17 with fail
              clear x0 x1
              have VS := Lib.hid (VarAt.new wr 73 [.int .i64 s1, .int .i64 s2])
              have hd : Below wr.heap.size wr (wr.alloc (.cells #[.int .i64 s1, .int .i64 s2] 73)) := (Below.refl _ _).alloc (Nat.le_refl _) _
              replace hbv := hbv.trans (hd.mono hbv.size)
              clear hd
              generalize wr.alloc (.cells #[.int .i64 s1, .int .i64 s2] 73) = w6b at *
              generalize wr.heap.size = gS at *
              have HH2 := Lib.hid (HH.out.kept hbv)
              have z0 := VS.out.cell (i := 0) rfl
              have z1 := VS.out.cell (i := 1) rfl
              obtain ⟨a0, a1⟩ := HAC.out _ HH2.out
              have HCY := Lib.hid (fun W => HCE.out s1 s2 W)
              generalize af.cell s1 s2 = y at *
              have hw5 : IntKind.i64.wrap (t + f j) = t + f j := IntWalk.i64_in _ (by omega)
              cases e1 : (s1 == sr) <;> cases e2 : (s2 == sc)
              case true.true =>
                have HVE : Hid (f j = letS (x.val y) pr) := Lib.hid (by rw [HFJ3.out, if_pos (by simp at e1 e2; rw [e1, e2])])
                have HVY : Hid (∀ W, x.At q W → Calls Tryz.prog 184 #[.agg #[.string x.letters, .slice q.values.a x.values.length q.values.c, .slice q.counts.a x.counts.length q.counts.c, .int .i64 x.blanks], .int .u8 (y.toNat : Int), .int .u8 (pr.toNat : Int)] W fun e w' => e = .returned (.int .i64 (f j)) ∧ Below W.heap.size W w') := Lib.hid (fun W h => by rw [HVE.out]; exact HLSC.out y pr W h)
                clear HFJ3 HVE
                generalize f j = v at *
                go_quiet (fail)
                have hd : Below w6b.heap.size w6b (w6b.drewN nq) := (show Drew w6b (w6b.drewN nq) from ⟨_, rfl⟩).below _
                replace VS := Lib.hid (VS.out.kept hd)
                replace HH2 := Lib.hid (HH2.out.kept hd)
                replace hbv := hbv.trans (hd.mono hbv.size)
                clear hd z0 z1 a0 a1
                generalize w6b.drewN nq = w6c at *
                go_upto_region 18 with fail
                have hd : Below w6c.heap.size w6c w6c.drew := (Below.refl _ _).drew
                replace VS := Lib.hid (VS.out.kept hd)
                replace hbv := hbv.trans (hd.mono hbv.size)
                replace HH2 := Lib.hid (HH2.out.kept hd)
                clear hd
                go_region_held3 (fun w' => w'.cell? ⟨w.heap.size, 0, none⟩ = some (.string x.letters) ∧ w'.cell? ⟨w.heap.size, 1, none⟩ = some (.slice q.values.a x.values.length q.values.c) ∧ w'.cell? ⟨w.heap.size, 2, none⟩ = some (.slice q.counts.a x.counts.length q.counts.c) ∧ w'.cell? ⟨w.heap.size, 3, none⟩ = some (.int .i64 x.blanks) ∧ w'.cell? ⟨ga, 0, none⟩ = some (.int .i64 af.size) ∧ w'.cell? ⟨ga, 1, none⟩ = some (.string af.premium) ∧ w'.cell? ⟨ga, 2, none⟩ = some (.string af.cells) ∧ w'.cell? ⟨gS, 0, none⟩ = some (.int .i64 s1) ∧ w'.cell? ⟨gS, 1, none⟩ = some (.int .i64 s2))
                  (exact ⟨HH2.out.t.cell (i := 0) rfl, HH2.out.t.cell (i := 1) rfl, HH2.out.t.cell (i := 2) rfl, HH2.out.t.cell (i := 3) rfl, HH2.out.af.cell (i := 0) rfl, HH2.out.af.cell (i := 1) rfl, HH2.out.af.cell (i := 2) rfl, VS.out.cell (i := 0) rfl, VS.out.cell (i := 1) rfl⟩)
                  (((first | (go_at_call 129; refine (HCY.out _).mono ?_; rintro e wq ⟨rfl, hd⟩) | (go_at_call 184; refine (HVY.out _ (HA.out.kept (hb.trans (hbv.mono hb.size)))).mono ?_; rintro e wq ⟨rfl, hd⟩)); replace VS := Lib.hid (VS.out.kept hd); replace HH2 := Lib.hid (HH2.out.kept hd); replace hbv := hbv.trans (hd.mono hbv.size); clear hd))
                generalize wq = w6d at *
                clear HH2 VS HCY HVY
                go_wp2
                go_roundw
                case rel => exact ⟨j + 1, t + v, by omega, by go_num, rfl, by omega, by omega, HT2, hbv⟩
                case measure => simp [intOf]; omega
              all_goals
                have HVE : Hid (f j = x.val y) := Lib.hid (by rw [HFJ3.out, if_neg (by simp at e1 e2; simp [e1, e2])])
                have HVY : Hid (∀ W, x.At q W → Calls Tryz.prog 185 #[.agg #[.string x.letters, .slice q.values.a x.values.length q.values.c, .slice q.counts.a x.counts.length q.counts.c, .int .i64 x.blanks], .int .u8 (y.toNat : Int)] W fun e w' => e = .returned (.int .i64 (f j)) ∧ Below W.heap.size W w') := Lib.hid (fun W h => by rw [HVE.out]; exact HVO.out y W h)
                clear HFJ3 HVE
                generalize f j = v at *
                go_quiet (fail)
                have hd : Below w6b.heap.size w6b (w6b.drewN nq) := (show Drew w6b (w6b.drewN nq) from ⟨_, rfl⟩).below _
                replace VS := Lib.hid (VS.out.kept hd)
                replace HH2 := Lib.hid (HH2.out.kept hd)
                replace hbv := hbv.trans (hd.mono hbv.size)
                clear hd z0 z1 a0 a1
                generalize w6b.drewN nq = w6c at *
                go_upto_region 19 with fail
                have hd : Below w6c.heap.size w6c w6c.drew := (Below.refl _ _).drew
                replace VS := Lib.hid (VS.out.kept hd)
                replace hbv := hbv.trans (hd.mono hbv.size)
                replace HH2 := Lib.hid (HH2.out.kept hd)
                clear hd
                go_region_held3 (fun w' => w'.cell? ⟨w.heap.size, 0, none⟩ = some (.string x.letters) ∧ w'.cell? ⟨w.heap.size, 1, none⟩ = some (.slice q.values.a x.values.length q.values.c) ∧ w'.cell? ⟨w.heap.size, 2, none⟩ = some (.slice q.counts.a x.counts.length q.counts.c) ∧ w'.cell? ⟨w.heap.size, 3, none⟩ = some (.int .i64 x.blanks) ∧ w'.cell? ⟨ga, 0, none⟩ = some (.int .i64 af.size) ∧ w'.cell? ⟨ga, 1, none⟩ = some (.string af.premium) ∧ w'.cell? ⟨ga, 2, none⟩ = some (.string af.cells) ∧ w'.cell? ⟨gS, 0, none⟩ = some (.int .i64 s1) ∧ w'.cell? ⟨gS, 1, none⟩ = some (.int .i64 s2))
                  (exact ⟨HH2.out.t.cell (i := 0) rfl, HH2.out.t.cell (i := 1) rfl, HH2.out.t.cell (i := 2) rfl, HH2.out.t.cell (i := 3) rfl, HH2.out.af.cell (i := 0) rfl, HH2.out.af.cell (i := 1) rfl, HH2.out.af.cell (i := 2) rfl, VS.out.cell (i := 0) rfl, VS.out.cell (i := 1) rfl⟩)
                  (((first | (go_at_call 129; refine (HCY.out _).mono ?_; rintro e wq ⟨rfl, hd⟩) | (go_at_call 185; refine (HVY.out _ (HA.out.kept (hb.trans (hbv.mono hb.size)))).mono ?_; rintro e wq ⟨rfl, hd⟩)); replace VS := Lib.hid (VS.out.kept hd); replace HH2 := Lib.hid (HH2.out.kept hd); replace hbv := hbv.trans (hd.mono hbv.size); clear hd))
                generalize wq = w6d at *
                clear HH2 VS HCY HVY
                go_wp2
                go_roundw
                case rel => exact ⟨j + 1, t + v, by omega, by go_num, rfl, by omega, by omega, HT2, hbv⟩
                case measure => simp [intOf]; omega
            · obtain rfl : j = qs.length := by omega
              have HTE : Hid (t * facP pr = pv) := Lib.hid (by rw [HPF.out, HT.out])
              clear HT HPF HFR HFJ2
              replace hNr := Nat.le_trans hNr hbv.size
              replace HH := Lib.hid (HH.out.kept hbv)
              replace HO := Lib.hid (own_below HO.out hbv)
              replace hb := hb.trans (hbv.mono hb.size)
              clear hbv HQ
              have hw6 : IntKind.i64.wrap (t * facP pr) = pv := by rw [HTE.out]; exact IntWalk.i64_in _ (by omega)
              have SU := Lib.hid (own_slice U8.enc_len (own_new_byte wr (pr.toNat : Int) 5 wr.heap.size (Nat.le_refl _)) (show ([pr] : List UInt8).length = 1 from rfl).symm)
              have hd : Below wr.heap.size wr (wr.alloc (.cells #[.int .u8 (pr.toNat : Int)] 5)) := (Below.refl _ _).alloc (Nat.le_refl _) _
              replace hNr := Nat.le_trans hNr hd.size
              replace hb := hb.trans (hd.mono hb.size)
              replace HO := Lib.hid (own_below HO.out hd)
              replace HH := Lib.hid (HH.out.kept hd)
              clear hd
              have HWF := Lib.hid (wordFactor_any [pr] _ 1 _ SU.out (by simp))
              rw [show facL [pr] = facP pr by simp [facL]] at HWF
              clear SU
              generalize facP pr = fp at *
              go_wp2_with fail
              refine (HWF.out).mono ?_
              rintro e wf ⟨rfl, hd⟩
              clear HWF
              replace hNr := Nat.le_trans hNr hd.size
              replace hb := hb.trans (hd.mono hb.size)
              replace HO := Lib.hid (own_below HO.out hd)
              replace HH := Lib.hid (HH.out.kept hd)
              clear hd
              have hx3 : Below wf.heap.size wf (wf.alloc (.cells #[.int .i64 pv] 2)) := (Below.refl _ _).alloc (Nat.le_refl _) _
              have KN := Lib.hid (new_i64 wf pv 2)
              have hz3 := HH.out.b.lt
              have hgo1 := (HO.out.lt g1 rfl).1
              have hNf : N ≤ wf.heap.size := hNr
              replace hNr := Nat.le_trans hNr hx3.size
              replace hb := hb.trans (hx3.mono hb.size)
              replace HO := Lib.hid (own_below HO.out hx3)
              replace HH := Lib.hid (HH.out.kept hx3)
              clear hx3
              go_wp2_with (at_builtin; go_must (refine wpList_append_lies _ rfl (.tmp 102) (.tmp 108) 42 rfl (w.heap.size + 3) 2 i0 _ 1 8 Tryz.underlying42 hi0 hi1 hi2 hi3 rfl (by decide) _ (k + 1) ((PL.take (k + 1)).flatMap I64.enc) (by rfl) HO.out ⟨wf.heap.size, 0, none⟩ 1 1 (I64.enc pv) (by rfl) rfl KN.out (i64_one pv) (by decide) ?c1 ?c2 ?c3 _ rfl ?_))
              case c1 => unfold maxLen; omega
              case c2 => omega
              case c3 => have := HGN.out; (first | omega | (simp only [World.size_alloc]; omega))
              intro g7 cap7 w11 hown hgr hwh hlt7
              have hb7 := hb.grown hgr hb.size (fun q e => by have := (HO.out.lt q e).1; omega)
              have HO7 : Hid (w11.ownsRow (w.heap.size + 3) 2 1 (.slice (some ⟨g7, 0, none⟩) (k + 1 + 1) cap7) (k + 1 + 1) ((PL.take (k + 1 + 1)).flatMap I64.enc)) := Lib.hid (by rw [HTK2.out, snoc_flat I64.enc]; exact hown)
              have hg7 : g7 = go1 ∨ N ≤ g7 := by
                rcases hwh with h | h
                · simp [Value.ownBlock] at h; omega
                · right; rw [h]; (first | omega | (simp only [World.size_alloc]; omega))
              have hge7 : ∀ e ∈ es, e.g ≠ g1 := fun e he => by
                have h1 := HGE.out e he
                have h2 := HGN.out
                omega
              have hgn := HGN.out
              have HH7 := Lib.hid (HH.out.grown (g := g1) hgr (by omega) (by omega) (by omega) (by omega) hge7)
              have hNr7 := Nat.le_trans hNr hgr.size
              clear hown hgr hwh KN HO hb HH
              go_wp2
              go_roundw
              case rel => exact ⟨k + 1, g7, cap7, by omega, by go_num, by go_num, hg7, hNr7, HO7, HH7, hb7⟩
              case measure => simp [intOf]; omega
        · obtain rfl : k = m := by omega
          have hO := HO.out
          rw [List.take_of_length_le (by rw [HTL.out]; exact Nat.le_refl _)] at hO
          have HON := Lib.hid hO
          clear hO HO
          go_wp2
          go_ret
          exact ⟨g1, cap, by rw [HTL.out]; rfl, by rw [HTL.out]; exact own_mono HON.out (by omega), hb⟩
end Go.Proofs.YtjdcdhhbgijaoaaGreatDoor

namespace Go.Proofs.YtjdcdhhbgijaoaaGreatDoor
open Go.ChangeShapes Go.WideShapes Go.ChangeAt Go.RowKit Go.Sort

set_option maxRecDepth 100000 in
set_option maxHeartbeats 4000000 in
theorem scorePlay_any (x : Tls) (q : TlA) (b : Brd) (p : Ply) (n : Nat) (w : World) (ha : x.At q w) (hx : x.Good) (hp : PGood b p n) :
    Calls Tryz.prog 87 #[.agg #[.string x.letters, .slice q.values.a x.values.length q.values.c, .slice q.counts.a x.counts.length q.counts.c, .int .i64 x.blanks], .agg #[.int .i64 b.size, .string b.premium, .string b.cells], .agg #[.int .i64 p.row, .int .i64 p.col, .bool p.down, .string p.word]] w fun e w' => e = .returned (.int .i64 (b.score p x)) ∧ Below w.heap.size w w' := by
  obtain ⟨w2, hw2⟩ : ∃ w2, w2 = ((w.alloc (.cells #[.string x.letters, .slice q.values.a x.values.length q.values.c, .slice q.counts.a x.counts.length q.counts.c, .int .i64 x.blanks] 44)).alloc (.cells #[.int .i64 b.size, .string b.premium, .string b.cells] 25)).alloc (.cells #[.int .i64 p.row, .int .i64 p.col, .bool p.down, .string p.word] 30) := ⟨_, rfl⟩
  have hb : Below w.heap.size w w2 := by rw [hw2]; exact (((Below.refl _ _).alloc (Nat.le_refl _) _).alloc (by simp) _).alloc (by simp; omega) _
  have VT : Hid (VarAt w2 w.heap.size 44 [.string x.letters, .slice q.values.a x.values.length q.values.c, .slice q.counts.a x.counts.length q.counts.c, .int .i64 x.blanks]) := by
    rw [hw2]
    exact Lib.hid (((VarAt.new w 44 [.string x.letters, .slice q.values.a x.values.length q.values.c, .slice q.counts.a x.counts.length q.counts.c, .int .i64 x.blanks]).kept ((Below.refl _ _).alloc (Nat.le_refl _) _)).kept ((Below.refl _ _).alloc (Nat.le_refl _) _))
  have VB : Hid (VarAt w2 (w.heap.size + 1) 25 [.int .i64 b.size, .string b.premium, .string b.cells]) := by
    rw [hw2]
    have := (VarAt.new (w.alloc (.cells #[.string x.letters, .slice q.values.a x.values.length q.values.c, .slice q.counts.a x.counts.length q.counts.c, .int .i64 x.blanks] 44)) 25 [.int .i64 b.size, .string b.premium, .string b.cells]).kept ((Below.refl _ _).alloc (Nat.le_refl _) (.cells #[.int .i64 p.row, .int .i64 p.col, .bool p.down, .string p.word] 30))
    simp only [World.size_alloc] at this
    exact Lib.hid this
  have VP : Hid (VarAt w2 (w.heap.size + 2) 30 [.int .i64 p.row, .int .i64 p.col, .bool p.down, .string p.word]) := by
    rw [hw2]
    have := VarAt.new ((w.alloc (.cells #[.string x.letters, .slice q.values.a x.values.length q.values.c, .slice q.counts.a x.counts.length q.counts.c, .int .i64 x.blanks] 44)).alloc (.cells #[.int .i64 b.size, .string b.premium, .string b.cells] 25)) 30 [.int .i64 p.row, .int .i64 p.col, .bool p.down, .string p.word]
    simp only [World.size_alloc] at this
    exact Lib.hid this
  have HA := Lib.hid ha
  have HW2 := Lib.hid hw2
  have HPA : Hid (∀ W, x.At q W → Calls Tryz.prog 90 #[.agg #[.string x.letters, .slice q.values.a x.values.length q.values.c, .slice q.counts.a x.counts.length q.counts.c, .int .i64 x.blanks], .agg #[.int .i64 b.size, .string b.premium, .string b.cells], .agg #[.int .i64 p.row, .int .i64 p.col, .bool p.down, .string p.word]] W (NumsPost W (b.parts p x))) := Lib.hid (fun W h => scoreParts_any x q b p n W h hx hp)
  have HNS : Hid (∀ W, Calls Tryz.prog 121 #[.agg #[.int .i64 b.size, .string b.premium, .string b.cells], .agg #[.int .i64 p.row, .int .i64 p.col, .bool p.down, .string p.word]] W (NewPost p (b.fresh p) W)) := Lib.hid (fun W => newSquares_any b p n W hp)
  have hpl := parts_len13 hp x
  have HRG := Lib.hid (parts_range hp hx)
  have hfl : (b.fresh p).length ≤ p.word.size := freshL_len _ _ _ _
  have h12 := hp.twelve
  have HSC : Hid (b.score p x = (b.parts p x).sum + if (b.fresh p).length = 7 then 50 else 0) := Lib.hid rfl
  clear hw2 ha hp hx
  generalize b.score p x = sc at *
  generalize b.parts p x = xs at *
  generalize b.fresh p = fr at *
  have HR : Hid (∀ k, k < xs.length → ∃ v : Int, 0 ≤ v ∧ v ≤ 382637520 ∧ (xs.take (k + 1)).sum = (xs.take k).sum + v ∧ ∀ (W : World) gx cx, W.ownsRow w.heap.size 2 1 (.slice (some ⟨gx, 0, none⟩) xs.length cx) xs.length (xs.flatMap I64.enc) → W.cell? ⟨gx, k, none⟩ = some (.int .i64 v)) := Lib.hid (fun k h => ⟨xs[k], (HRG.out _ (List.getElem_mem _)).1, (HRG.out _ (List.getElem_mem _)).2, sum_take_get h, fun W gx cx hx => num_row hx h⟩)
  go_enter Tryz.func87, Tryz.ntmps87
  go_upto_region 2 with fail
  rw [← HW2.out]
  clear HW2
  have t0 := VT.out.cell (i := 0) rfl
  have t1 := VT.out.cell (i := 1) rfl
  have t2 := VT.out.cell (i := 2) rfl
  have t3 := VT.out.cell (i := 3) rfl
  have b0 := VB.out.cell (i := 0) rfl
  have b1 := VB.out.cell (i := 1) rfl
  have b2 := VB.out.cell (i := 2) rfl
  have p0 := VP.out.cell (i := 0) rfl
  have p1 := VP.out.cell (i := 1) rfl
  have p2 := VP.out.cell (i := 2) rfl
  have p3 := VP.out.cell (i := 3) rfl
  have hz := hb.size
  go_wp2_with fail
  refine (HPA.out _ (HA.out.kept hb)).mono ?_
  rintro e w6 ⟨gx, cx, rfl, hx0, hd⟩
  have HX := Lib.hid (own_mono hx0 (show w.heap.size ≤ _ by omega))
  clear hx0 t0 t1 t2 t3 b0 b1 b2 p0 p1 p2 p3 HPA
  replace hb := hb.trans (hd.mono hb.size)
  replace VB := Lib.hid (VB.out.kept hd)
  replace VP := Lib.hid (VP.out.kept hd)
  clear hd
  generalize hxl : xs.length = m at *
  have HXL := Lib.hid hxl
  clear hxl
  go_wp2_with fail
  go_loopw [7, 17] (fun tv iv wr => ∃ (k : Nat) (t : Int), k ≤ m ∧ iv = .int .i64 k ∧ tv = .int .i64 t ∧ 0 ≤ t ∧ t ≤ 382637520 * k ∧ Hid (t = (xs.take k).sum) ∧ w6 = wr) (fun _ iv _ => m - (intOf iv).toNat)
  case atStart => exact ⟨0, 0, Nat.zero_le _, rfl, rfl, by omega, by omega, Lib.hid (by simp), by trivial⟩
  case round =>
    obtain ⟨k, t, hk, rfl, rfl, ht0, ht1, HT, hw⟩ := hrel
    subst hw
    by_cases hkm : k < m
    · obtain ⟨v, hv0, hv1, hvs, hvc⟩ := HR.out k hkm
      have cv := hvc _ _ _ HX.out
      have HT2 : Hid (t + v = (xs.take (k + 1)).sum) := Lib.hid (by rw [hvs, HT.out])
      have hw5 : IntKind.i64.wrap (t + v) = t + v := IntWalk.i64_in _ (by omega)
      clear hvs hvc HT
      go_wp2
      go_roundw
      case rel => exact ⟨k + 1, t + v, by omega, by go_num, rfl, by omega, by omega, HT2, by trivial⟩
      case measure => simp [intOf]; omega
    · obtain rfl : k = m := by omega
      have hT := HT.out
      rw [List.take_of_length_le (by rw [HXL.out]; exact Nat.le_refl _)] at hT
      have HTE := Lib.hid hT
      clear hT HT HR HRG HX
      have b0 := VB.out.cell (i := 0) rfl
      have b1 := VB.out.cell (i := 1) rfl
      have b2 := VB.out.cell (i := 2) rfl
      have p0 := VP.out.cell (i := 0) rfl
      have p1 := VP.out.cell (i := 1) rfl
      have p2 := VP.out.cell (i := 2) rfl
      have p3 := VP.out.cell (i := 3) rfl
      go_wp2_with fail
      refine (HNS.out _).mono ?_
      rintro e w7 ⟨gs, cs, gi, ci, rfl, _, _, _, hd⟩
      replace hb := hb.trans (hd.mono hb.size)
      clear hd b0 b1 b2 p0 p1 p2 p3
      by_cases h7 : fr.length = 7
      · have HE : Hid (sc = t + 50) := Lib.hid (by rw [HSC.out, if_pos h7, HTE.out])
        have h7' : ((fr.length : Int) == 7) = true := by rw [beq_iff_eq]; omega
        have hw5 : IntKind.i64.wrap (t + 50) = t + 50 := IntWalk.i64_in _ (by omega)
        clear h7
        go_wp2
        go_ret
        exact ⟨by rw [HE.out]; rfl, hb⟩
      · have HE : Hid (sc = t) := Lib.hid (by rw [HSC.out, if_neg h7, HTE.out, Int.add_zero])
        have h7' : ((fr.length : Int) == 7) = false := by rw [beq_eq_false_iff_ne]; omega
        clear h7
        go_wp2
        go_ret
        exact ⟨by rw [HE.out]; rfl, hb⟩
set_option maxRecDepth 100000 in
set_option maxHeartbeats 4000000 in
theorem ScorePlay_any (x : Tls) (q : TlA) (b : Brd) (p : Ply) (w : World) (ha : x.At q w) (hft : x.fit) (hxs : x.letters.size ≤ 1048576) (hf : b.fit) (hs : p.word.size ≤ 1048576) (hE : CEnv w) :
    Calls Tryz.prog 22 #[.agg #[.string x.letters, .slice q.values.a x.values.length q.values.c, .slice q.counts.a x.counts.length q.counts.c, .int .i64 x.blanks], .agg #[.int .i64 b.size, .string b.premium, .string b.cells], .agg #[.int .i64 p.row, .int .i64 p.col, .bool p.down, .string p.word]] w (ScorePost b p x w) := by
  obtain ⟨w2, hw2⟩ : ∃ w2, w2 = ((w.alloc (.cells #[.string x.letters, .slice q.values.a x.values.length q.values.c, .slice q.counts.a x.counts.length q.counts.c, .int .i64 x.blanks] 44)).alloc (.cells #[.int .i64 b.size, .string b.premium, .string b.cells] 25)).alloc (.cells #[.int .i64 p.row, .int .i64 p.col, .bool p.down, .string p.word] 30) := ⟨_, rfl⟩
  have hb : Below w.heap.size w w2 := by rw [hw2]; exact (((Below.refl _ _).alloc (Nat.le_refl _) _).alloc (by simp) _).alloc (by simp; omega) _
  have VT : Hid (VarAt w2 w.heap.size 44 [.string x.letters, .slice q.values.a x.values.length q.values.c, .slice q.counts.a x.counts.length q.counts.c, .int .i64 x.blanks]) := by
    rw [hw2]
    exact Lib.hid (((VarAt.new w 44 [.string x.letters, .slice q.values.a x.values.length q.values.c, .slice q.counts.a x.counts.length q.counts.c, .int .i64 x.blanks]).kept ((Below.refl _ _).alloc (Nat.le_refl _) _)).kept ((Below.refl _ _).alloc (Nat.le_refl _) _))
  have VB : Hid (VarAt w2 (w.heap.size + 1) 25 [.int .i64 b.size, .string b.premium, .string b.cells]) := by
    rw [hw2]
    have := (VarAt.new (w.alloc (.cells #[.string x.letters, .slice q.values.a x.values.length q.values.c, .slice q.counts.a x.counts.length q.counts.c, .int .i64 x.blanks] 44)) 25 [.int .i64 b.size, .string b.premium, .string b.cells]).kept ((Below.refl _ _).alloc (Nat.le_refl _) (.cells #[.int .i64 p.row, .int .i64 p.col, .bool p.down, .string p.word] 30))
    simp only [World.size_alloc] at this
    exact Lib.hid this
  have VP : Hid (VarAt w2 (w.heap.size + 2) 30 [.int .i64 p.row, .int .i64 p.col, .bool p.down, .string p.word]) := by
    rw [hw2]
    have := VarAt.new ((w.alloc (.cells #[.string x.letters, .slice q.values.a x.values.length q.values.c, .slice q.counts.a x.counts.length q.counts.c, .int .i64 x.blanks] 44)).alloc (.cells #[.int .i64 b.size, .string b.premium, .string b.cells] 25)) 30 [.int .i64 p.row, .int .i64 p.col, .bool p.down, .string p.word]
    simp only [World.size_alloc] at this
    exact Lib.hid this
  have HA := Lib.hid ha
  have HW2 := Lib.hid hw2
  have HE := Lib.hid (hE.kept hb)
  clear hw2 ha hE
  have HSC : Hid (∀ sb W, x.At q W → CEnv W → PlAt W sb p → Calls Tryz.prog 86 #[.agg #[.string x.letters, .slice q.values.a x.values.length q.values.c, .slice q.counts.a x.counts.length q.counts.c, .int .i64 x.blanks], .agg #[.int .i64 b.size, .string b.premium, .string b.cells], .slice (some ⟨sb, 0, none⟩) 1 1] W fun e w' => e = .returned (.bool (x.ok && b.okPlay p)) ∧ Below W.heap.size W w') := Lib.hid (fun sb W h1 h2 h3 => scorable_any x q b p sb W h1 hft hxs hf hs h2 h3)
  have HPN := Lib.hid (PlAt.new w2 p 30)
  have hd0 : Below w2.heap.size w2 (w2.alloc (.cells #[.int .i64 p.row, .int .i64 p.col, .bool p.down, .string p.word] 30)) := (Below.refl _ _).alloc (Nat.le_refl _) _
  have HEN := Lib.hid (HE.out.kept hd0)
  have hbn := hb.trans (hd0.mono hb.size)
  have VTN := Lib.hid (VT.out.kept hd0)
  have VBN := Lib.hid (VB.out.kept hd0)
  have VPN := Lib.hid (VP.out.kept hd0)
  clear hd0
  cases hk : (x.ok && b.okPlay p) with
  | false =>
    refine Calls.mono (R := fun e w' => e = .returned (.tuple #[.int .i64 0, .int .i64 1]) ∧ Below w.heap.size w w') ?_ (score_no hk)
    rw [hk] at HSC
    go_enter Tryz.func22, Tryz.ntmps22
    go_upto_region 1 with fail
    rw [← HW2.out]
    clear HW2
    have t0 := VT.out.cell (i := 0) rfl
    have t1 := VT.out.cell (i := 1) rfl
    have t2 := VT.out.cell (i := 2) rfl
    have t3 := VT.out.cell (i := 3) rfl
    have b0 := VB.out.cell (i := 0) rfl
    have b1 := VB.out.cell (i := 1) rfl
    have b2 := VB.out.cell (i := 2) rfl
    have p0 := VP.out.cell (i := 0) rfl
    have p1 := VP.out.cell (i := 1) rfl
    have p2 := VP.out.cell (i := 2) rfl
    have p3 := VP.out.cell (i := 3) rfl
    go_wp2_with fail
    refine (HSC.out _ _ (HA.out.kept hbn) HEN.out HPN.out).mono ?_
    rintro e w3 ⟨rfl, hd⟩
    have hb2 := hbn.trans (hd.mono hbn.size)
    clear hd t0 t1 t2 t3 b0 b1 b2 p0 p1 p2 p3
    go_wp2
    go_ret2
    exact ⟨rfl, hb2⟩
  | true =>
    obtain ⟨hx, hpk⟩ := (Bool.and_eq_true _ _ ▸ hk : x.ok = true ∧ b.okPlay p = true)
    obtain ⟨n, hpg⟩ := okPlay_good hpk
    have HXG := Lib.hid (Tls.good hx)
    have HPG := Lib.hid hpg
    clear hpg
    refine Calls.mono (R := fun e w' => e = .returned (.tuple #[.int .i64 (b.score p x), .int .i64 0]) ∧ Below w.heap.size w w') ?_ (score_yes hx hpk)
    rw [hk] at HSC
    go_enter Tryz.func22, Tryz.ntmps22
    go_upto_region 1 with fail
    rw [← HW2.out]
    clear HW2
    have t0 := VT.out.cell (i := 0) rfl
    have t1 := VT.out.cell (i := 1) rfl
    have t2 := VT.out.cell (i := 2) rfl
    have t3 := VT.out.cell (i := 3) rfl
    have b0 := VB.out.cell (i := 0) rfl
    have b1 := VB.out.cell (i := 1) rfl
    have b2 := VB.out.cell (i := 2) rfl
    have p0 := VP.out.cell (i := 0) rfl
    have p1 := VP.out.cell (i := 1) rfl
    have p2 := VP.out.cell (i := 2) rfl
    have p3 := VP.out.cell (i := 3) rfl
    go_wp2_with fail
    refine (HSC.out _ _ (HA.out.kept hbn) HEN.out HPN.out).mono ?_
    rintro e w3 ⟨rfl, hd⟩
    clear t0 t1 t2 t3 b0 b1 b2 p0 p1 p2 p3
    clear hb VT VB VP
    have hb := hbn
    have VT := VTN
    have VB := VBN
    have VP := VPN
    clear hbn VTN VBN VPN HPN HEN
    replace hb := hb.trans (hd.mono hb.size)
    replace VT := Lib.hid (VT.out.kept hd)
    replace VB := Lib.hid (VB.out.kept hd)
    replace VP := Lib.hid (VP.out.kept hd)
    clear hd
    have t0 := VT.out.cell (i := 0) rfl
    have t1 := VT.out.cell (i := 1) rfl
    have t2 := VT.out.cell (i := 2) rfl
    have t3 := VT.out.cell (i := 3) rfl
    have b0 := VB.out.cell (i := 0) rfl
    have b1 := VB.out.cell (i := 1) rfl
    have b2 := VB.out.cell (i := 2) rfl
    have p0 := VP.out.cell (i := 0) rfl
    have p1 := VP.out.cell (i := 1) rfl
    have p2 := VP.out.cell (i := 2) rfl
    have p3 := VP.out.cell (i := 3) rfl
    have hz := hb.size
    go_wp2_with fail
    refine (scorePlay_any x q b p n _ (HA.out.kept hb) HXG.out HPG.out).mono ?_
    rintro e w4 ⟨rfl, hd⟩
    have hb2 := hb.trans (hd.mono hb.size)
    clear hd t0 t1 t2 t3 b0 b1 b2 p0 p1 p2 p3
    go_wp2
    go_ret2
    exact ⟨rfl, hb2⟩
set_option maxRecDepth 100000 in
set_option maxHeartbeats 4000000 in
theorem ScoreParts_any (x : Tls) (q : TlA) (b : Brd) (p : Ply) (w : World) (ha : x.At q w) (hft : x.fit) (hxs : x.letters.size ≤ 1048576) (hf : b.fit) (hs : p.word.size ≤ 1048576) (hE : CEnv w) :
    Calls Tryz.prog 24 #[.agg #[.string x.letters, .slice q.values.a x.values.length q.values.c, .slice q.counts.a x.counts.length q.counts.c, .int .i64 x.blanks], .agg #[.int .i64 b.size, .string b.premium, .string b.cells], .agg #[.int .i64 p.row, .int .i64 p.col, .bool p.down, .string p.word]] w (PartsPost b p x w) := by
  obtain ⟨w2, hw2⟩ : ∃ w2, w2 = ((w.alloc (.cells #[.string x.letters, .slice q.values.a x.values.length q.values.c, .slice q.counts.a x.counts.length q.counts.c, .int .i64 x.blanks] 44)).alloc (.cells #[.int .i64 b.size, .string b.premium, .string b.cells] 25)).alloc (.cells #[.int .i64 p.row, .int .i64 p.col, .bool p.down, .string p.word] 30) := ⟨_, rfl⟩
  have hb : Below w.heap.size w w2 := by rw [hw2]; exact (((Below.refl _ _).alloc (Nat.le_refl _) _).alloc (by simp) _).alloc (by simp; omega) _
  have VT : Hid (VarAt w2 w.heap.size 44 [.string x.letters, .slice q.values.a x.values.length q.values.c, .slice q.counts.a x.counts.length q.counts.c, .int .i64 x.blanks]) := by
    rw [hw2]
    exact Lib.hid (((VarAt.new w 44 [.string x.letters, .slice q.values.a x.values.length q.values.c, .slice q.counts.a x.counts.length q.counts.c, .int .i64 x.blanks]).kept ((Below.refl _ _).alloc (Nat.le_refl _) _)).kept ((Below.refl _ _).alloc (Nat.le_refl _) _))
  have VB : Hid (VarAt w2 (w.heap.size + 1) 25 [.int .i64 b.size, .string b.premium, .string b.cells]) := by
    rw [hw2]
    have := (VarAt.new (w.alloc (.cells #[.string x.letters, .slice q.values.a x.values.length q.values.c, .slice q.counts.a x.counts.length q.counts.c, .int .i64 x.blanks] 44)) 25 [.int .i64 b.size, .string b.premium, .string b.cells]).kept ((Below.refl _ _).alloc (Nat.le_refl _) (.cells #[.int .i64 p.row, .int .i64 p.col, .bool p.down, .string p.word] 30))
    simp only [World.size_alloc] at this
    exact Lib.hid this
  have VP : Hid (VarAt w2 (w.heap.size + 2) 30 [.int .i64 p.row, .int .i64 p.col, .bool p.down, .string p.word]) := by
    rw [hw2]
    have := VarAt.new ((w.alloc (.cells #[.string x.letters, .slice q.values.a x.values.length q.values.c, .slice q.counts.a x.counts.length q.counts.c, .int .i64 x.blanks] 44)).alloc (.cells #[.int .i64 b.size, .string b.premium, .string b.cells] 25)) 30 [.int .i64 p.row, .int .i64 p.col, .bool p.down, .string p.word]
    simp only [World.size_alloc] at this
    exact Lib.hid this
  have HA := Lib.hid ha
  have HW2 := Lib.hid hw2
  have HE := Lib.hid (hE.kept hb)
  clear hw2 ha hE
  have HSC : Hid (∀ sb W, x.At q W → CEnv W → PlAt W sb p → Calls Tryz.prog 86 #[.agg #[.string x.letters, .slice q.values.a x.values.length q.values.c, .slice q.counts.a x.counts.length q.counts.c, .int .i64 x.blanks], .agg #[.int .i64 b.size, .string b.premium, .string b.cells], .slice (some ⟨sb, 0, none⟩) 1 1] W fun e w' => e = .returned (.bool (x.ok && b.okPlay p)) ∧ Below W.heap.size W w') := Lib.hid (fun sb W h1 h2 h3 => scorable_any x q b p sb W h1 hft hxs hf hs h2 h3)
  have HPN := Lib.hid (PlAt.new w2 p 30)
  have hd0 : Below w2.heap.size w2 (w2.alloc (.cells #[.int .i64 p.row, .int .i64 p.col, .bool p.down, .string p.word] 30)) := (Below.refl _ _).alloc (Nat.le_refl _) _
  have HEN := Lib.hid (HE.out.kept hd0)
  have hbn := hb.trans (hd0.mono hb.size)
  have VTN := Lib.hid (VT.out.kept hd0)
  have VBN := Lib.hid (VB.out.kept hd0)
  have VPN := Lib.hid (VP.out.kept hd0)
  clear hd0
  cases hk : (x.ok && b.okPlay p) with
  | false =>
    refine Calls.mono (R := fun e w' => e = .returned (.tuple #[.slice none 0 0, .int .i64 1]) ∧ Below w.heap.size w w') ?_ (partsP_no hk)
    rw [hk] at HSC
    go_enter Tryz.func24, Tryz.ntmps24
    go_upto_region 1 with fail
    rw [← HW2.out]
    clear HW2
    have t0 := VT.out.cell (i := 0) rfl
    have t1 := VT.out.cell (i := 1) rfl
    have t2 := VT.out.cell (i := 2) rfl
    have t3 := VT.out.cell (i := 3) rfl
    have b0 := VB.out.cell (i := 0) rfl
    have b1 := VB.out.cell (i := 1) rfl
    have b2 := VB.out.cell (i := 2) rfl
    have p0 := VP.out.cell (i := 0) rfl
    have p1 := VP.out.cell (i := 1) rfl
    have p2 := VP.out.cell (i := 2) rfl
    have p3 := VP.out.cell (i := 3) rfl
    go_wp2_with fail
    refine (HSC.out _ _ (HA.out.kept hbn) HEN.out HPN.out).mono ?_
    rintro e w3 ⟨rfl, hd⟩
    have hb2 := hbn.trans (hd.mono hbn.size)
    clear hd t0 t1 t2 t3 b0 b1 b2 p0 p1 p2 p3
    go_wp2
    go_ret2
    exact ⟨rfl, hb2⟩
  | true =>
    obtain ⟨hx, hpk⟩ := (Bool.and_eq_true _ _ ▸ hk : x.ok = true ∧ b.okPlay p = true)
    obtain ⟨n, hpg⟩ := okPlay_good hpk
    have HXG := Lib.hid (Tls.good hx)
    have HPG := Lib.hid hpg
    clear hpg
    refine Calls.mono (R := fun e w' => ∃ g cap, e = .returned (.tuple #[.slice (some ⟨g, 0, none⟩) (b.parts p x).length cap, .int .i64 0]) ∧ w'.ownsRow w.heap.size 2 1 (.slice (some ⟨g, 0, none⟩) (b.parts p x).length cap) (b.parts p x).length ((b.parts p x).flatMap I64.enc) ∧ Below w.heap.size w w') ?_ (partsP_yes hx hpk)
    rw [hk] at HSC
    go_enter Tryz.func24, Tryz.ntmps24
    go_upto_region 1 with fail
    rw [← HW2.out]
    clear HW2
    have t0 := VT.out.cell (i := 0) rfl
    have t1 := VT.out.cell (i := 1) rfl
    have t2 := VT.out.cell (i := 2) rfl
    have t3 := VT.out.cell (i := 3) rfl
    have b0 := VB.out.cell (i := 0) rfl
    have b1 := VB.out.cell (i := 1) rfl
    have b2 := VB.out.cell (i := 2) rfl
    have p0 := VP.out.cell (i := 0) rfl
    have p1 := VP.out.cell (i := 1) rfl
    have p2 := VP.out.cell (i := 2) rfl
    have p3 := VP.out.cell (i := 3) rfl
    go_wp2_with fail
    refine (HSC.out _ _ (HA.out.kept hbn) HEN.out HPN.out).mono ?_
    rintro e w3 ⟨rfl, hd⟩
    clear t0 t1 t2 t3 b0 b1 b2 p0 p1 p2 p3
    clear hb VT VB VP
    have hb := hbn
    have VT := VTN
    have VB := VBN
    have VP := VPN
    clear hbn VTN VBN VPN HPN HEN
    replace hb := hb.trans (hd.mono hb.size)
    replace VT := Lib.hid (VT.out.kept hd)
    replace VB := Lib.hid (VB.out.kept hd)
    replace VP := Lib.hid (VP.out.kept hd)
    clear hd
    have t0 := VT.out.cell (i := 0) rfl
    have t1 := VT.out.cell (i := 1) rfl
    have t2 := VT.out.cell (i := 2) rfl
    have t3 := VT.out.cell (i := 3) rfl
    have b0 := VB.out.cell (i := 0) rfl
    have b1 := VB.out.cell (i := 1) rfl
    have b2 := VB.out.cell (i := 2) rfl
    have p0 := VP.out.cell (i := 0) rfl
    have p1 := VP.out.cell (i := 1) rfl
    have p2 := VP.out.cell (i := 2) rfl
    have p3 := VP.out.cell (i := 3) rfl
    have hz := hb.size
    go_wp2_with fail
    refine (scoreParts_any x q b p n _ (HA.out.kept hb) HXG.out HPG.out).mono ?_
    rintro e w4 ⟨g1, cap1, rfl, hown, hd⟩
    have HO := Lib.hid (own_mono hown (show w.heap.size ≤ _ by omega))
    have hb2 := hb.trans (hd.mono hb.size)
    clear hd hown t0 t1 t2 t3 b0 b1 b2 p0 p1 p2 p3
    go_wp2
    go_ret2
    exact ⟨g1, cap1, rfl, HO.out, hb2⟩
end Go.Proofs.YtjdcdhhbgijaoaaGreatDoor
