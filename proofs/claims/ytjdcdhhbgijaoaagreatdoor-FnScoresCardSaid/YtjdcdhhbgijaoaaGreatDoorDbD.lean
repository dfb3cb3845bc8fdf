/- Contracts: the reference's standard board and its empty board (for seats without games). F · Contracts: the reference's board with another square, and a board on which letters are lai -/
import Derived.Test.YtjdcdhhbgijaoaaGreatDoorBrD
import Derived.Test.YtjdcdhhbgijaoaaGreatDoorVar
import Derived.Test.YtjdcdhhbgijaoaaGreatDoorLgE
import Derived.Test.YtjdcdhhbgijaoaaGreatDoorFsB
namespace Go.Proofs.YtjdcdhhbgijaoaaGreatDoor
open Go.ChangeShapes Go.WideShapes Go.ChangeAt Go.RowKit Go.Sort

def mnI (a b : Int) : Int := if a < b then a else b
def mxI (a b : Int) : Int := if a > b then a else b
theorem mnI_rng {a b l h : Int} (ha : l ≤ a ∧ a ≤ h) (hb : l ≤ b ∧ b ≤ h) : l ≤ mnI a b ∧ mnI a b ≤ h := by unfold mnI; split <;> omega
theorem mxI_rng {a b l h : Int} (ha : l ≤ a ∧ a ≤ h) (hb : l ≤ b ∧ b ≤ h) : l ≤ mxI a b ∧ mxI a b ≤ h := by unfold mxI; split <;> omega
/-- the premium of a square that lies a and b from the edges; h: half of the last row's number -/
def stdA (a b h : Int) : Int := if a = 0 ∧ (b = 0 ∨ b = h) then 116 else if a = b then 100 else if (a + b) % 6 = 4 then 51 else if (a + b) % 4 = 3 then 50 else 46
def stdC (n r c : Int) : Int := stdA (mnI (mnI r (n - 1 - r)) (mnI c (n - 1 - c))) (mxI (mnI r (n - 1 - r)) (mnI c (n - 1 - c))) ((n - 1) / 2)
def stdB (n r c : Int) : UInt8 := UInt8.ofNat (stdC n r c).toNat
theorem stdB_val (n r c : Int) : ((stdB n r c).toNat : Int) = stdC n r c := by
  unfold stdB stdC stdA
  split
  · rfl
  · split
    · rfl
    · split
      · rfl
      · split <;> rfl
def stdL (n : Nat) : List UInt8 := (List.range (n * n)).map (fun k => stdB n ((k / n : Nat) : Int) ((k % n : Nat) : Int))
theorem stdL_len (n : Nat) : (stdL n).length = n * n := by simp [stdL]
theorem stdL_take {n r c m : Nat} (hr : r < n) (hc : c < n) (hm : m = r * n + c) : (stdL n).take (m + 1) = (stdL n).take m ++ [stdB n r c] := by
  have h1 : r * n + c < n * n := row_ltn hr hc
  have hlt : m < (stdL n).length := by rw [stdL_len, hm]; exact h1
  rw [List.take_succ_eq_append_getElem hlt]
  congr 1
  have e1 : m / n = r := by rw [hm, Nat.mul_comm, Nat.mul_add_div (by omega), Nat.div_eq_of_lt hc, Nat.add_zero]
  have e2 : m % n = c := by rw [hm, Nat.mul_comm, Nat.mul_add_mod, Nat.mod_eq_of_lt hc]
  simp only [stdL, List.getElem_map, List.getElem_range, e1, e2]
/-- a standard board, and a code -/
def stdBoard (z : Int) : Brd × Int := if withinB z 5 15 = true then (⟨z, mkB (stdL z.toNat), mkB (List.replicate (z.toNat * z.toNat) 46)⟩, 0) else (⟨0, ⟨#[]⟩, ⟨#[]⟩⟩, 2)
/-- a struct of whatever size is stored, in a region that draws -/
theorem step_store {P : Program} {w : World} {ops : Array Oper} {o : Oper} {act : Act} {K : Act → World → Prop} {Q : Exit → Act → World → Prop} {E : Prop} (hgd : o.guard = none) (ty : TypeId) (x y : Operand) (ho : o.op = .store ty x y)
    (b off : Nat) (cells : Array Value) (hx : act.eval x = .pointer (some ⟨b, off, none⟩)) (hy : act.eval y = .agg cells)
    (ht : w.there b off cells.size) (hi : (P.info? ty).map (·.size) = some cells.size) (h1 : cells.all (·.oneCell') = true)
    (h : K (act.put o.dst undef) (w.setCells b off cells.toList)) : if Region.wanted o (yielded ops act.tmps) = true then Oper.wp P o act w K Q else E := by
  have hw : Region.wanted o (yielded ops act.tmps) = true := by simp [Region.wanted, hgd]
  rw [if_pos hw]
  exact wp_store_mid ty x y ho b off cells hx hy ht hi h1 h
theorem mk_store {P : Program} {w : World} {ops : Array Oper} {o : Oper} {act : Act} {K : Act → World → Prop} {Q : Exit → Act → World → Prop} {E : Prop} (hgd : o.guard = none) (hds : o.dst = none) (ty : TypeId) (x y : Operand) (ho : o.op = .store ty x y)
    (b off : Nat) (cells : Array Value) (hx : act.eval x = .pointer (some ⟨b, off, none⟩)) (hy : act.eval y = .agg cells)
    (ht : w.there b off cells.size) (hi : (P.info? ty).map (·.size) = some cells.size) (h1 : cells.all (·.oneCell') = true)
    (h : K act (w.setCells b off cells.toList)) : if Region.wanted o (yielded ops act.tmps) = true then Oper.wp P o act w K Q else E :=
  step_store hgd ty x y ho b off cells hx hy ht hi h1 (by rw [hds]; exact h)
theorem mkMin_any (a b : Int) (w : World) : Calls Tryz.prog 279 #[.int .i64 a, .int .i64 b] w fun e w' => e = .returned (.int .i64 (mnI a b)) ∧ w = w' := by
  go_enter Tryz.func279, Tryz.ntmps279
  go_wp2
  all_goals
    go_ret
    exact ⟨ret_int (by unfold mnI; split <;> omega), rfl⟩
theorem mkMax_any (a b : Int) (w : World) : Calls Tryz.prog 280 #[.int .i64 a, .int .i64 b] w fun e w' => e = .returned (.int .i64 (mxI a b)) ∧ w = w' := by
  go_enter Tryz.func280, Tryz.ntmps280
  go_wp2
  all_goals
    go_ret
    exact ⟨ret_int (by unfold mxI; split <;> omega), rfl⟩
/-- the square's distances from the edges are small -/
theorem near {n r : Int} (hn : 5 ≤ n ∧ n ≤ 15) (hr : 0 ≤ r ∧ r ≤ n - 1) : 0 ≤ mnI r (n - 1 - r) ∧ mnI r (n - 1 - r) ≤ 14 := by unfold mnI; split <;> omega
set_option maxHeartbeats 4000000 in
theorem l11Standard_any (n r c : Int) (w : World) (hn : 5 ≤ n ∧ n ≤ 15) (hr : 0 ≤ r ∧ r ≤ n - 1) (hc : 0 ≤ c ∧ c ≤ n - 1) :
    Calls Tryz.prog 251 #[.int .i64 n, .int .i64 r, .int .i64 c] w fun e w' => e = .returned (.int .u8 ((stdB n r c).toNat : Int)) ∧ w = w' := by
  have HV : Hid (((stdB n r c).toNat : Int) = stdC n r c) := Lib.hid (stdB_val n r c)
  unfold stdC at HV
  have hx := near hn hr
  have hy := near hn hc
  have ha := mnI_rng hx hy
  have hb := mxI_rng hx hy
  obtain ⟨hn0, hn1⟩ := hn
  obtain ⟨hr0, hr1⟩ := hr
  obtain ⟨hc0, hc1⟩ := hc
  go_enter Tryz.func251, Tryz.ntmps251
  go_wp2_with fail
  refine (mkMin_any _ _ _).mono ?_
  rintro e w' ⟨rfl, rfl⟩
  generalize mnI r (n - 1 - r) = x at *
  go_wp2_with fail
  refine (mkMin_any _ _ _).mono ?_
  rintro e w' ⟨rfl, rfl⟩
  generalize mnI c (n - 1 - c) = y at *
  go_wp2_with fail
  refine (mkMin_any _ _ _).mono ?_
  rintro e w' ⟨rfl, rfl⟩
  go_wp2_with fail
  refine (mkMax_any _ _ _).mono ?_
  rintro e w' ⟨rfl, rfl⟩
  generalize mnI x y = a at *
  generalize mxI x y = b at *
  obtain ⟨ha0, ha1⟩ := ha
  obtain ⟨hb0, hb1⟩ := hb
  clear hx hy
  by_cases h1 : a = 0
  · by_cases h2 : b = 0
    · go_wp2
      all_goals
        go_ret
        exact ⟨ret_int (by rw [HV.out]; unfold stdA; (try simp only [beq_iff_eq, beq_eq_false_iff_ne, ne_eq] at *); (repeat' split) <;> omega), rfl⟩
    · by_cases h3 : b = (n - 1) / 2
      · go_wp2
        all_goals
          go_ret
          exact ⟨ret_int (by rw [HV.out]; unfold stdA; (try simp only [beq_iff_eq, beq_eq_false_iff_ne, ne_eq] at *); (repeat' split) <;> omega), rfl⟩
      · go_wp2
        all_goals
          go_ret
          exact ⟨ret_int (by rw [HV.out]; unfold stdA; (try simp only [beq_iff_eq, beq_eq_false_iff_ne, ne_eq] at *); (repeat' split) <;> omega), rfl⟩
  · go_wp2
    all_goals
      go_ret
      exact ⟨ret_int (by rw [HV.out]; unfold stdA; (try simp only [beq_iff_eq, beq_eq_false_iff_ne, ne_eq] at *); (repeat' split) <;> omega), rfl⟩
set_option maxRecDepth 100000 in
set_option maxHeartbeats 4000000 in
theorem l02Repeat_any (c : UInt8) (n : Nat) (w : World) (hn : n ≤ 100000) :
    Calls Tryz.prog 101 #[.int .u8 (c.toNat : Int), .int .i64 (n : Int)] w (StrPost w (List.replicate n c)) := by
  obtain ⟨i0, hi0, hi1, hi2, hi3⟩ := info_parts infoByte
  have hd0 : Below w.heap.size w (w.alloc (.cells #[] 5)) := (Below.refl _ _).alloc (Nat.le_refl _) _
  have HO : Hid ((w.alloc (.cells #[] 5)).ownsRow w.heap.size 5 1 (.slice (some ⟨w.heap.size, 0, none⟩) 0 0) 0 ((List.replicate 0 c).flatMap U8.enc)) := Lib.hid (
    World.ownsRow_made (base := w.heap.size) (e := 5) (size := 1) w #[] 0 (Nat.le_refl _) (by unfold maxLen; omega) rfl)
  have hb := hd0
  have HSN : Hid (∀ k, (List.replicate (k + 1) c) = List.replicate k c ++ [c]) := Lib.hid (fun k => rep_snoc k c)
  have HLN : Hid (∀ k, (List.replicate k c).length = k) := Lib.hid (fun k => List.length_replicate)
  clear hd0
  obtain ⟨rp, hrp⟩ : ∃ rp : Nat → List UInt8, ∀ k, rp k = List.replicate k c := ⟨_, fun _ => rfl⟩
  have HRP := Lib.hid hrp
  simp only [← hrp] at HO HSN HLN ⊢
  clear hrp
  go_enter Tryz.func101, Tryz.ntmps101
  go_wp2_with fail
  go_loopw [1, 5] (fun nv ov wr => ∃ (k g1 cap : Nat), k ≤ n ∧ nv = .int .i64 ((n - k : Nat) : Int) ∧ ov = .slice (some ⟨g1, 0, none⟩) k cap ∧ Hid (wr.ownsRow w.heap.size 5 1 (.slice (some ⟨g1, 0, none⟩) k cap) k ((rp k).flatMap U8.enc)) ∧ Below w.heap.size w wr) (fun nv _ _ => (intOf nv).toNat)
  case atStart => exact ⟨0, _, 0, Nat.zero_le _, rfl, rfl, HO, hb⟩
  case round =>
    clear HO hb
    obtain ⟨k, g1, cap, hk, rfl, rfl, HO, hb⟩ := hrel
    by_cases h0 : 0 < n - k
    · have hnk : ((n - (k + 1) : Nat) : Int) = ((n - k : Nat) : Int) - 1 := by omega
      have HNK := Lib.hid hnk
      have hp0 : 0 < ((n - k : Nat) : Int) := by omega
      have hk1 : k + 1 ≤ n := by omega
      have hdn : n - k ≤ 100000 := by omega
      clear hnk
      generalize n - k = d at *
      have wr1 : IntKind.i64.wrap ((d : Int) - 1) = (d : Int) - 1 := IntWalk.i64_in _ (by omega)
      have hx : Below wr.heap.size wr (wr.alloc (.cells #[.int .u8 ((c.toNat : Int))] 5)) := (Below.refl _ _).alloc (Nat.le_refl _) _
      have KN := Lib.hid (new_byte wr c 5)
      have HOX := Lib.hid (own_below HO.out hx)
      have hz2 := hb.size
      have hbx := hb.trans (hx.mono hb.size)
      have HS := Lib.hid (HSN.out k)
      clear hx HO hb
      go_wp2_with (at_builtin; go_must (refine wpList_append_lies _ rfl (.tmp 11) (.tmp 13) 22 rfl w.heap.size 5 i0 _ 1 1 Tryz.underlying22 hi0 hi1 hi2 hi3 rfl (by decide) _ k ((rp k).flatMap U8.enc) (by rfl) HOX.out ⟨wr.heap.size, 0, none⟩ 1 1 (U8.enc c) (by rfl) rfl KN.out (u8_one1 c) (by decide) ?c1 ?c2 ?c3 _ rfl ?_))
      case c1 => unfold maxLen; omega
      case c2 => omega
      case c3 => (first | omega | (simp only [World.size_alloc]; omega))
      intro g7 cap7 w7 hown hgr hwh hlt7
      have hb7 := hbx.grown hgr hbx.size (fun q e => by have := (HOX.out.lt q e).1; omega)
      have HO7 : Hid (w7.ownsRow w.heap.size 5 1 (.slice (some ⟨g7, 0, none⟩) (k + 1) cap7) (k + 1) ((rp (k + 1)).flatMap U8.enc)) := Lib.hid (by rw [HS.out, snoc_flat U8.enc]; exact hown)
      clear hown hgr hwh KN hlt7 HOX hbx hz2 HS
      go_wp2
      go_roundw
      case rel => exact ⟨k + 1, g7, cap7, hk1, by rw [HNK.out], rfl, HO7, hb7⟩
      case measure => simp [intOf]; omega
    · obtain rfl : k = n := by omega
      rw [Nat.sub_self]
      have hcv := own_bytes HO.out (HLN.out _).symm
      clear HO HSN
      go_wp2
      go_ret
      exact ⟨rfl, hb⟩
/-! ### All tiles -/
set_option maxRecDepth 100000 in
set_option maxHeartbeats 4000000 in
theorem specStandardBoard_any (z : Int) (w : World) :
    Calls Tryz.prog 197 #[.int .i64 z] w fun e w' => e = .returned (.tuple #[.agg #[.int .i64 (stdBoard z).1.size, .string (stdBoard z).1.premium, .string (stdBoard z).1.cells], .int .i64 (stdBoard z).2]) ∧ Below w.heap.size w w' := by
  obtain ⟨i0, hi0, hi1, hi2, hi3⟩ := info_parts infoByte
  have hb0 : Below w.heap.size w (w.alloc (.cells #[.int .i64 0, .string ⟨#[]⟩, .string ⟨#[]⟩] 25)) := (Below.refl _ _).alloc (Nat.le_refl _) _
  have V0 := Lib.hid (VarAt.new w 25 [.int .i64 0, .string ⟨#[]⟩, .string ⟨#[]⟩])
  have HSZ : Hid (∀ W, Calls Tryz.prog 100 #[.int .i64 z] W fun e w' => e = .returned (.bool (withinB z 5 15)) ∧ W = w') := Lib.hid (fun W => l11Size_any z W)
  cases hz : withinB z 5 15 with
  | false =>
    have HR : Hid (stdBoard z = (⟨0, ⟨#[]⟩, ⟨#[]⟩⟩, 2)) := Lib.hid (by unfold stdBoard; rw [hz]; rfl)
    rw [HR.out]
    rw [hz] at HSZ
    clear hz HR
    go_enter Tryz.func197, Tryz.ntmps197
    go_upto_region 1 with fail
    generalize w.alloc (.cells #[.int .i64 0, .string ⟨#[]⟩, .string ⟨#[]⟩] 25) = w1 at *
    go_wp2_with fail
    refine (HSZ.out _).mono ?_
    rintro e w2 ⟨rfl, rfl⟩
    clear HSZ
    have c0 := V0.out.cell (i := 0) rfl
    have c1 := V0.out.cell (i := 1) rfl
    have c2 := V0.out.cell (i := 2) rfl
    have f0 := V0.out.free 0
    have f1 := V0.out.free 1
    have f2 := V0.out.free 2
    obtain ⟨o0, k0⟩ := V0.out.set 0 (.int .i64 0)
    obtain ⟨o1, k1⟩ := o0.set 1 (.string ⟨#[]⟩)
    obtain ⟨o2, k2⟩ := o1.set 2 (.string ⟨#[]⟩)
    have GG := grownBy_trans (grownBy_trans k0 k1) k2
    have hb9 := hb0.grown GG hb0.size (fun q h => by cases h; exact Nat.le_refl _)
    have e0 := o2.cell (i := 0) (v := .int .i64 0) rfl
    have e1 := o2.cell (i := 1) (v := .string ⟨#[]⟩) rfl
    have e2 := o2.cell (i := 2) (v := .string ⟨#[]⟩) rfl
    clear o0 o1 o2 k0 k1 k2 GG
    go_wp2
    refine bodyPost_ret (v := .tuple #[.agg #[.int .i64 0, .string ⟨#[]⟩, .string ⟨#[]⟩], .int .i64 2]) (by simp [results, Tryz.results197, go_sem, e0, e1, e2]) rfl ?_
    exact ⟨rfl, hb9⟩
  | true =>
    have h5 : 5 ≤ z ∧ z ≤ 15 := by simpa only [withinB, Bool.and_eq_true, decide_eq_true_eq] using hz
    obtain ⟨n, rfl⟩ : ∃ n : Nat, z = (n : Int) := ⟨z.toNat, by omega⟩
    have hn5 : 5 ≤ n := by omega
    have hn : n ≤ 15 := by omega
    have HR : Hid (stdBoard (n : Int) = (⟨n, mkB (stdL n), mkB (List.replicate (n * n) 46)⟩, 0)) := Lib.hid (by unfold stdBoard; rw [hz]; rfl)
    rw [HR.out]
    rw [hz] at HSZ
    clear hz HR
    have HLN := Lib.hid (stdL_len n)
    have HTK := Lib.hid (fun (r c m : Nat) (h1 : r < n) (h2 : c < n) (h3 : m = r * n + c) => stdL_take (n := n) h1 h2 h3)
    have HST : Hid (∀ r c : Nat, r < n → c < n → ∀ W, Calls Tryz.prog 251 #[.int .i64 n, .int .i64 r, .int .i64 c] W fun e w' => e = .returned (.int .u8 ((stdB n r c).toNat : Int)) ∧ W = w') := Lib.hid (fun r c h1 h2 W => l11Standard_any n r c W (by omega) (by omega) (by omega))
    go_enter Tryz.func197, Tryz.ntmps197
    go_upto_region 1 with fail
    generalize w.alloc (.cells #[.int .i64 0, .string ⟨#[]⟩, .string ⟨#[]⟩] 25) = w1 at *
    go_wp2_with fail
    refine (HSZ.out _).mono ?_
    rintro e w2 ⟨rfl, rfl⟩
    clear HSZ
    have hb : Below w1.heap.size w1 (w1.alloc (.cells #[] 5)) := (Below.refl _ _).alloc (Nat.le_refl _) _
    have HO : Hid ((w1.alloc (.cells #[] 5)).ownsRow w1.heap.size 5 1 (.slice (some ⟨w1.heap.size, 0, none⟩) 0 0) 0 []) := Lib.hid (World.ownsRow_made (base := w1.heap.size) (e := 5) (size := 1) w1 #[] 0 (by simp) (by unfold maxLen; omega) rfl)
    go_upto_region 4 with fail
    generalize w1.alloc (.cells #[] 5) = w3 at *
    go_wp2_with fail
    go_loopw [4, 5] (fun ov iv wr => ∃ (r m g cap : Nat), r ≤ n ∧ iv = .int .i64 r ∧ ov = .slice (some ⟨g, 0, none⟩) m cap ∧ Hid (m = r * n) ∧ m ≤ 225 ∧ Hid (wr.ownsRow w1.heap.size 5 1 (.slice (some ⟨g, 0, none⟩) m cap) m (((stdL n).take m).flatMap U8.enc)) ∧ Below w1.heap.size w1 wr) (fun _ iv _ => n - (intOf iv).toNat)
    case atStart => exact ⟨0, 0, _, 0, Nat.zero_le _, rfl, rfl, Lib.hid (by simp), by omega, HO, hb⟩
    case round =>
      clear HO hb
      obtain ⟨r, m, g, cap, hr, rfl, rfl, HN, hm, HO, hb⟩ := hrel
      by_cases hlt : r < n
      · go_wp2_with fail
        obtain ⟨wo, rfl⟩ : ∃ wo : World, wo = wr := ⟨_, rfl⟩
        go_loopw [4, 6] (fun ov iv wr => ∃ (c m g cap : Nat), c ≤ n ∧ iv = .int .i64 c ∧ ov = .slice (some ⟨g, 0, none⟩) m cap ∧ Hid (m = r * n + c) ∧ m ≤ 225 ∧ Hid (wr.ownsRow w1.heap.size 5 1 (.slice (some ⟨g, 0, none⟩) m cap) m (((stdL n).take m).flatMap U8.enc)) ∧ Below w1.heap.size w1 wr) (fun _ iv _ => n - (intOf iv).toNat)
        case atStart => exact ⟨0, m, g, cap, Nat.zero_le _, rfl, rfl, Lib.hid (by rw [HN.out]; rfl), hm, HO, hb⟩
        case round =>
          clear HO hb hm HN
          obtain ⟨c, m, g2, cap2, hc, rfl, rfl, HM, hm, HO, hb⟩ := hrel
          by_cases hc2 : c < n
          · have HT := Lib.hid (HTK.out r c m hlt hc2 HM.out)
            have hm2 : m < 225 := by
              have h1 := HM.out
              have h2 := row_ltn hlt hc2
              have h3 := sq_mono hn
              omega
            have HM2 : Hid (m + 1 = r * n + (c + 1)) := Lib.hid (by have := HM.out; omega)
            have HS1 := Lib.hid (HST.out r c hlt hc2)
            clear HM
            generalize stdB (n : Int) (r : Int) (c : Int) = ch at *
            go_wp2_with fail
            refine (HS1.out _).mono ?_
            rintro e w4 ⟨rfl, rfl⟩
            clear HS1
            have hx : Below wr.heap.size wr (wr.alloc (.cells #[.int .u8 (ch.toNat : Int)] 5)) := (Below.refl _ _).alloc (Nat.le_refl _) _
            have KN := Lib.hid (new_byte wr ch 5)
            replace HO := Lib.hid (own_below HO.out hx)
            have hz2 := hb.size
            replace hb := hb.trans (hx.mono hb.size)
            clear hx
            go_wp2_with (at_builtin; go_must (refine wpList_append_own _ rfl (.tmp 22) (.tmp 27) 22 rfl w1.heap.size 5 i0 _ 1 1 Tryz.underlying22 hi0 hi1 hi2 hi3 rfl (by decide) _ m (((stdL n).take m).flatMap U8.enc) (by rfl) HO.out ⟨wr.heap.size, 0, none⟩ 1 1 (U8.enc ch) (by rfl) rfl KN.out (u8_one1 ch) ?c1 ?c2 ?c3 ?_))
            case c1 => unfold maxLen; omega
            case c2 => omega
            case c3 => (first | omega | (simp only [World.size_alloc]; omega))
            intro v' w7 hown hgr hnil
            obtain ⟨g7, cap7, rfl, _⟩ := own_some hown (fun e => by have h := hnil; rw [e] at h; simp at h)
            have hb7 := hb.grown hgr hb.size (fun q e => by have := (HO.out.lt q e).1; omega)
            have HO7 : Hid (w7.ownsRow w1.heap.size 5 1 (.slice (some ⟨g7, 0, none⟩) (m + 1) cap7) (m + 1) (((stdL n).take (m + 1)).flatMap U8.enc)) := Lib.hid (by
              rw [HT.out, snoc_flat U8.enc]; exact hown)
            clear hown hgr hnil KN HO hb HT
            go_wp2
            go_roundw
            case rel => exact ⟨c + 1, m + 1, g7, cap7, by omega, by go_num, by go_num, HM2, by omega, HO7, hb7⟩
            case measure => simp [intOf]; omega
          · obtain rfl : c = n := by omega
            have HM2 : Hid (m = (r + 1) * c) := Lib.hid (by rw [Nat.succ_mul]; exact HM.out)
            clear HM
            go_wp2
            go_roundw
            case rel => exact ⟨r + 1, m, g2, cap2, by omega, by go_num, rfl, HM2, hm, HO, hb⟩
            case measure => simp [intOf]; omega
      · obtain rfl : r = n := by omega
        have HE : Hid ((stdL r).take m = stdL r) := Lib.hid (List.take_of_length_le (by rw [HLN.out, HN.out]; exact Nat.le_refl _))
        have hO := HO.out
        rw [HE.out] at hO
        have HNL : Hid (m = (stdL r).length) := Lib.hid (by rw [HN.out, HLN.out])
        have hcv := own_bytes hO HNL.out
        clear hcv HO HE HTK HLN HST
        have hd : Below wr.heap.size wr wr.drew := (Below.refl _ _).drew
        replace hO := own_below hO hd
        replace hb := hb.trans (hd.mono hb.size)
        clear hd
        obtain ⟨q, hq⟩ : ∃ q : Nat, q = r * r := ⟨_, rfl⟩
        have hqi : (r : Int) * (r : Int) = (q : Int) := by rw [hq]; push_cast; rfl
        have hq2 : q ≤ 225 := by rw [hq]; exact Nat.mul_le_mul hn hn
        have HQ : Hid (r * r = q) := Lib.hid hq.symm
        have V1 := Lib.hid (V0.out.kept hb)
        have HRP : Hid (∀ W, Calls Tryz.prog 101 #[.int .u8 46, .int .i64 (q : Int)] W fun e w' => e = .returned (.string (mkB (List.replicate (r * r) 46))) ∧ Below W.heap.size W w') := Lib.hid (fun W => by rw [← hq]; exact l02Repeat_any 46 q W (by omega))
        have hw : IntKind.i64.wrap (q : Int) = q := IntWalk.i64_in _ (by omega)
        have hlt0 := V0.out.lt
        clear hq V0
        go_upto_region 11 with fail
        generalize hfr : mkB (List.replicate (r * r) 46) = free at *
        have HF := Lib.hid hfr
        clear hfr
        refine wp_region_held_drew (S := fun W => W.ownsRow w1.heap.size 5 1 (.slice (some ⟨g, 0, none⟩) m cap) m ((stdL r).flatMap U8.enc)) (by kernel_rfl) hO (fun hHeld => ?_)
        generalize wr.drew = wd at *
        refine slotA 0 29 (.int .i64 r) ?_
        simp only [S3]
        refine slotA 1 30 (.slice (some ⟨g, 0, none⟩) m cap) ?_
        simp only [S3]
        refine slotA 2 31 (.string (mkB (stdL r))) ?_ (hy := Or.inl ⟨by rfl, fun w' hS => by have c9 := own_bytes hS HNL.out; go_simp⟩)
        simp only [S3]
        refine slotA 3 32 (.int .i64 r) ?_
        simp only [S3]
        refine slotA 4 33 (.int .i64 r) ?_
        simp only [S3]
        refine slotA 5 34 (.int .i64 q) ?_
        simp only [S3]
        refine wpAnyH_ready (rs := [6]) (by kernel_rfl) (by simp) ?_
        refine AllReadyH.cons (o := _) rfl (fun K hK => ?_) AllReadyH.nil
        go_simp
        refine (HRP.out _).mono ?_
        rintro e wa ⟨rfl, hd⟩
        replace hO := own_below hO hd
        replace V1 := Lib.hid (V1.out.kept hd)
        replace hb := hb.trans (hd.mono hb.size)
        clear hd hHeld HRP
        go_wp2_with fail
        refine hK.out _ _ hO (fun hHeld => ?_)
        clear hK K
        generalize hpr : mkB (stdL r) = prem at *
        have HP := Lib.hid hpr
        clear hpr
        refine slotA 7 36 (.agg #[.int .i64 r, .string prem, .string free]) ?_
        simp only [S3]
        refine wpAnyH_ready (rs := [8]) (by kernel_rfl) (by simp) ?_
        refine AllReadyH.cons (o := _) rfl (fun K hK => ?_) AllReadyH.nil
        obtain ⟨o2, GG⟩ := V1.out.put [.int .i64 r, .string prem, .string free] rfl
        have tR := V1.out.there (n := 3) rfl
        have hO2 := row_store hO GG hlt0
        refine mk_store rfl rfl 25 (.tmp 2) (.tmp 36) rfl w.heap.size 0 #[.int .i64 r, .string prem, .string free] rfl rfl tR (by kernel_rfl) (by simp [Value.oneCell']) ?_
        refine hK.out _ _ hO2 (fun hHeld2 => ?_)
        clear hK K hHeld
        have hb9 := hb0.trans ((hb.mono hb0.size).grown GG (Nat.le_trans hb0.size hb.size) (fun q h => by cases h; exact Nat.le_refl _))
        change wpAnyH _ _ _ _ _ _ _ _ (World.setCells _ w.heap.size 0 [.int .i64 r, .string prem, .string free])
        have e0 := o2.cell (i := 0) (v := .int .i64 r) rfl
        have e1 := o2.cell (i := 1) (v := .string prem) rfl
        have e2 := o2.cell (i := 2) (v := .string free) rfl
        clear o2 GG hO hO2 tR V1 hb hb0
        generalize World.setCells _ w.heap.size 0 [.int .i64 r, .string prem, .string free] = wz at *
        refine slotA 9 3 (.int .i64 0) ?_
        simp only [S3]
        refine wpAnyH_done (by kernel_rfl) ?_ _
        clear hHeld2
        go_wp2
        refine bodyPost_ret (v := .tuple #[.agg #[.int .i64 r, .string prem, .string free], .int .i64 0]) (by simp [results, Tryz.results197, go_sem, e0, e1, e2]) rfl ?_
        exact ⟨by rw [HP.out, HF.out], hb9⟩
end Go.Proofs.YtjdcdhhbgijaoaaGreatDoor
namespace Go.Proofs.YtjdcdhhbgijaoaaGreatDoor
open Go.ChangeShapes Go.WideShapes Go.ChangeAt Go.RowKit Go.Sort

/-- a valid board comes back; nothing below is written -/
def GoodBack (n : Nat) (w : World) (e : Ending) (w' : World) : Prop :=
  ∃ b : Brd, b.Good n ∧ e = .returned (.agg #[.int .i64 n, .string b.premium, .string b.cells]) ∧ Below w.heap.size w w'
theorem letB_cellB {x : Int} (h : letB x = true) : cellB x = true := by
  unfold letB at h
  unfold cellB
  rw [Bool.or_assoc, h, Bool.or_true]
theorem Brd.Good.put {b : Brd} {n : Nat} (h : b.Good n) (i : Nat) {x : UInt8} (hx : letB x.toNat = true) : (⟨n, b.premium, mkB (b.cells.data.toList.set i x)⟩ : Brd).Good n := by
  refine ⟨rfl, h.lo, h.hi, h.prem, ?_, h.okP, ?_⟩
  · show (mkB _).size = _
    rw [mkB_size, List.length_set]
    have := h.cells
    simpa using this
  · unfold allC
    show (mkB _).data.toList.all _ = true
    rw [mkB_data, List.all_eq_true]
    intro y hy
    rcases List.mem_or_eq_of_mem_set hy with h1 | h1
    · have := h.okC
      unfold allC at this
      exact List.all_eq_true.1 this y h1
    · rw [h1]; exact letB_cellB hx
set_option maxRecDepth 100000 in
set_option maxHeartbeats 4000000 in
theorem l11Set_any (b : Brd) (n : Nat) (r c : Int) (x : UInt8) (g o : Nat) (w : World) (hb : b.Good n) (hg : BAt w g o b) (hi : b.inB r c = true) (hx : letB x.toNat = true) :
    Calls Tryz.prog 252 #[.pointer (some ⟨g, o, none⟩), .int .i64 r, .int .i64 c, .int .u8 (x.toNat : Int)] w (GoodBack n w) := by
  obtain ⟨i, j, q, rfl, rfl, hq, hqi, hl, hlt, hin, hjn, _⟩ := hb.place hi
  have HGD := Lib.hid (hb.put (q + j) hx)
  have hb0 : Below w.heap.size w (w.alloc (.cells #[.int .i64 0, .string ⟨#[]⟩, .string ⟨#[]⟩] 25)) := (Below.refl _ _).alloc (Nat.le_refl _) _
  have V0 := Lib.hid (VarAt.new w 25 [.int .i64 0, .string ⟨#[]⟩, .string ⟨#[]⟩])
  have hg1 := hg.kept hb0
  have hlg : g < w.heap.size := hg.lt
  obtain ⟨g0, g1, g2⟩ := hg1
  rw [hb.size] at g0
  have h15 := hb.hi
  have HCL : Hid (b.cells.data.toList.length = b.cells.size) := Lib.hid (by simp)
  clear hb hi hq hg hx
  go_enter Tryz.func252, Tryz.ntmps252
  go_upto_region 1 with fail
  generalize w.alloc (.cells #[.int .i64 0, .string ⟨#[]⟩, .string ⟨#[]⟩] 25) = w1 at *
  obtain ⟨cp, w2, hcp, hcv, hr, hd⟩ := bytes_of b.cells w1
  have HR := Lib.hid hr
  have hz1 := hb0.size
  have hl1 := V0.out.lt
  clear hr
  go_upto_region 2 with fail
  replace g0 := cell_kept g0 hd
  replace g1 := cell_kept g1 hd
  replace g2 := cell_kept g2 hd
  replace V0 := Lib.hid (V0.out.kept hd)
  replace hb0 := hb0.trans (hd.mono hb0.size)
  clear hcv hd
  generalize hG : w1.heap.size = G at *
  have wr1 : IntKind.i64.wrap (q : Int) = q := IntWalk.i64_in _ (by omega)
  have wr2 : IntKind.i64.wrap ((q : Int) + (j : Int)) = (q : Int) + j := IntWalk.i64_in _ (by omega)
  have wr3 : ((q : Int) + (j : Int)).toNat = q + j := by omega
  have wr4 : (0 : Int) ≤ (q : Int) + (j : Int) := by omega
  have wr5 : (q : Int) + (j : Int) < (b.cells.size : Int) := by omega
  have hmx : q + j < b.cells.data.toList.length := by rw [HCL.out]; exact hl
  have st := HR.out.cell (i := q + j) hmx
  have sf := HR.out.free (i := q + j) hmx
  obtain ⟨h9, k9⟩ := HR.out.set (q + j) x
  have gn : g ≠ G := by omega
  go_upto_region 3 with fail
  have HR9 := Lib.hid h9
  replace g0 := k9.cell g0 (by simpa using gn)
  replace g1 := k9.cell g1 (by simpa using gn)
  replace V0 := Lib.hid (V0.out.grown k9 (by simp; omega))
  replace hb0 := hb0.grown k9 hb0.size (fun q h => by cases h; omega)
  have hwG : w.heap.size < G := by omega
  clear h9 k9 st sf g2 HR wr1 wr2 wr3 wr4 wr5 hz1 hl1
  generalize World.setCell w2 ⟨G, q + j, none⟩ (.int .u8 (x.toNat : Int)) = w3 at *
  have HNL : Hid (b.cells.size = (b.cells.data.toList.set (q + j) x).length) := Lib.hid (by rw [List.length_set, HCL.out])
  have hd : Below w3.heap.size w3 w3.drew := (Below.refl _ _).drew
  have hS : RowB w3 G (b.cells.data.toList.set (q + j) x) ∧ w3.cell? ⟨g, o, none⟩ = some (.int .i64 (n : Int)) ∧ w3.cell? ⟨g, o + 1, none⟩ = some (.string b.premium) := ⟨HR9.out, g0, g1⟩
  replace hS : RowB w3.drew G (b.cells.data.toList.set (q + j) x) ∧ w3.drew.cell? ⟨g, o, none⟩ = some (.int .i64 (n : Int)) ∧ w3.drew.cell? ⟨g, o + 1, none⟩ = some (.string b.premium) := ⟨hS.1.kept hd, cell_kept hS.2.1 hd, cell_kept hS.2.2 hd⟩
  replace V0 := Lib.hid (V0.out.kept hd)
  replace hb0 := hb0.trans (hd.mono hb0.size)
  clear hd g0 g1 HR9
  refine wp_region_held_drew (S := fun W => RowB W G (b.cells.data.toList.set (q + j) x) ∧ W.cell? ⟨g, o, none⟩ = some (.int .i64 (n : Int)) ∧ W.cell? ⟨g, o + 1, none⟩ = some (.string b.premium)) (by kernel_rfl) hS (fun hHeld => ?_)
  generalize w3.drew = wd at *
  refine slotA 0 26 (.pointer (some ⟨g, o, none⟩)) ?_
  simp only [S3]
  refine slotA 1 27 (.pointer (some ⟨g, o, none⟩)) ?_
  simp only [S3]
  refine slotA 2 28 (.pointer (some ⟨g, o, none⟩)) ?_
  simp only [S3]
  refine slotA 3 29 (.int .i64 (n : Int)) ?_ (hy := Or.inl ⟨by rfl, fun w' hS => by have c9 := hS.2.1; go_simp⟩)
  simp only [S3]
  refine slotA 4 30 (.pointer (some ⟨g, o, none⟩)) ?_
  simp only [S3]
  refine slotA 5 31 (.pointer (some ⟨g, o, none⟩)) ?_
  simp only [S3]
  refine slotA 6 32 (.pointer (some ⟨g, o + 1, none⟩)) ?_
  simp only [S3]
  refine slotA 7 33 (.string b.premium) ?_ (hy := Or.inl ⟨by rfl, fun w' hS => by have c9 := hS.2.2; go_simp⟩)
  simp only [S3]
  refine slotA 8 34 (.slice (some ⟨G, 0, none⟩) b.cells.size cp) ?_
  simp only [S3]
  refine slotA 9 35 (.string (mkB (b.cells.data.toList.set (q + j) x))) ?_ (hy := Or.inl ⟨by rfl, fun w' hS => by have c9 := hS.1.str (n := b.cells.size) (cap := cp) HNL.out; go_simp⟩)
  simp only [S3]
  generalize hcs : mkB (b.cells.data.toList.set (q + j) x) = cs at *
  refine slotA 10 36 (.agg #[.int .i64 (n : Int), .string b.premium, .string cs]) ?_
  simp only [S3]
  refine wpAnyH_ready (rs := [11]) (by kernel_rfl) (by simp) ?_
  refine AllReadyH.cons (o := _) rfl (fun K hK => ?_) AllReadyH.nil
  obtain ⟨o2, GG⟩ := V0.out.put [.int .i64 (n : Int), .string b.premium, .string cs] rfl
  have tR := V0.out.there (n := 3) rfl
  have hS2 : RowB (wd.setCells w.heap.size 0 [.int .i64 (n : Int), .string b.premium, .string cs]) G (b.cells.data.toList.set (q + j) x) ∧ (wd.setCells w.heap.size 0 [.int .i64 (n : Int), .string b.premium, .string cs]).cell? ⟨g, o, none⟩ = some (.int .i64 (n : Int)) ∧ (wd.setCells w.heap.size 0 [.int .i64 (n : Int), .string b.premium, .string cs]).cell? ⟨g, o + 1, none⟩ = some (.string b.premium) :=
    ⟨hS.1.grown GG (by simp; omega), GG.cell hS.2.1 (by simp; omega), GG.cell hS.2.2 (by simp; omega)⟩
  refine mk_store rfl rfl 25 (.tmp 8) (.tmp 36) rfl w.heap.size 0 #[.int .i64 (n : Int), .string b.premium, .string cs] rfl rfl tR (by kernel_rfl) (by simp [Value.oneCell']) ?_
  refine hK.out _ _ hS2 (fun hHeld2 => ?_)
  clear hK K hHeld
  have hb9 := hb0.grown GG hb0.size (fun q h => by cases h; exact Nat.le_refl _)
  change wpAnyH _ _ _ _ _ _ _ _ (World.setCells _ w.heap.size 0 [.int .i64 (n : Int), .string b.premium, .string cs])
  have e0 := o2.cell (i := 0) (v := .int .i64 (n : Int)) rfl
  have e1 := o2.cell (i := 1) (v := .string b.premium) rfl
  have e2 := o2.cell (i := 2) (v := .string cs) rfl
  clear o2 GG hS hS2 tR V0 hb0
  generalize World.setCells _ w.heap.size 0 [.int .i64 (n : Int), .string b.premium, .string cs] = wz at *
  refine wpAnyH_done (by kernel_rfl) ?_ _
  clear hHeld2
  go_wp2
  refine bodyPost_ret (v := .agg #[.int .i64 (n : Int), .string b.premium, .string cs]) (by simp [results, Tryz.results252, go_sem, e0, e1, e2]) rfl ?_
  exact ⟨_, HGD.out, rfl, hb9⟩
/-- the letters of a text -/
def allLet (s : ByteArray) : Bool := s.data.toList.all fun c => letB c.toNat
theorem allLet_at {s : ByteArray} (h : allLet s = true) {i : Nat} (hi : i < s.size) : letB s[i].toNat = true := by
  unfold allLet at h
  refine List.all_eq_true.1 h _ ?_
  have : s[i] = s.data.toList[i]'(by simpa using hi) := rfl
  rw [this]
  exact List.getElem_mem _
set_option maxRecDepth 100000 in
set_option maxHeartbeats 8000000 in
theorem l11Lay_any (b : Brd) (n : Nat) (row col : Int) (down : Bool) (word : ByteArray) (w : World) (hB : b.Good n) (hr : 0 ≤ row ∧ row ≤ 100) (hc : 0 ≤ col ∧ col ≤ 100) (hw : word.size ≤ 20) (hl : allLet word = true) :
    Calls Tryz.prog 198 #[.agg #[.int .i64 (n : Int), .string b.premium, .string b.cells], .int .i64 row, .int .i64 col, .bool down, .string word] w (GoodBack n w) := by
  obtain ⟨hr0, hr1⟩ := hr
  obtain ⟨hc0, hc1⟩ := hc
  have HL : Hid (∀ i (h : i < word.size), letB (word[i].toNat : Int) = true) := Lib.hid (fun i h => allLet_at hl h)
  obtain ⟨w2, hw2⟩ : ∃ w2, w2 = (w.alloc (.cells #[.int .i64 (n : Int), .string b.premium, .string b.cells] 25)).alloc (.cells #[.int .i64 0, .string ⟨#[]⟩, .string ⟨#[]⟩] 25) := ⟨_, rfl⟩
  have hb : Below w.heap.size w w2 := by rw [hw2]; exact ((Below.refl _ _).alloc (Nat.le_refl _) _).alloc (by simp) _
  have V5 : Hid (VarAt w2 w.heap.size 25 [.int .i64 (n : Int), .string b.premium, .string b.cells]) := by
    rw [hw2]
    exact Lib.hid ((VarAt.new w 25 [.int .i64 (n : Int), .string b.premium, .string b.cells]).kept ((Below.refl _ _).alloc (Nat.le_refl _) _))
  have VR : Hid (VarAt w2 (w.heap.size + 1) 25 [.int .i64 0, .string ⟨#[]⟩, .string ⟨#[]⟩]) := by
    rw [hw2]
    have := VarAt.new (w.alloc (.cells #[.int .i64 (n : Int), .string b.premium, .string b.cells] 25)) 25 [.int .i64 0, .string ⟨#[]⟩, .string ⟨#[]⟩]
    simp only [World.size_alloc] at this
    exact Lib.hid this
  have HW2 := Lib.hid hw2
  have HGD := Lib.hid hB
  clear hw2 hB hl
  go_enter Tryz.func198, Tryz.ntmps198
  go_upto_region 1 with fail
  rw [← HW2.out]
  clear HW2
  go_wp2_with fail
  go_loopw [11] (fun iv wr => ∃ (i : Nat) (b : Brd), i ≤ word.size ∧ iv = .int .i64 i ∧ Hid (b.Good n) ∧ Hid (VarAt wr w.heap.size 25 [.int .i64 (n : Int), .string b.premium, .string b.cells]) ∧ Hid (VarAt wr (w.heap.size + 1) 25 [.int .i64 0, .string ⟨#[]⟩, .string ⟨#[]⟩]) ∧ Below w.heap.size w wr) (fun iv _ => word.size - (intOf iv).toNat)
  case atStart => exact ⟨0, b, Nat.zero_le _, rfl, HGD, V5, VR, hb⟩
  case round =>
    clear HGD V5 VR hb
    obtain ⟨i, b, hi, rfl, HGD, V5, VR, hb⟩ := hrel
    by_cases hil : i < word.size
    · have HB : Hid (BAt wr w.heap.size 0 b) := Lib.hid ⟨by have := V5.out.cell (i := 0) rfl; rw [HGD.out.size]; exact this, V5.out.cell (i := 1) rfl, V5.out.cell (i := 2) rfl⟩
      have wi : IntKind.i64.wrap ((i : Int) + 1) = (i : Int) + 1 := IntWalk.i64_in _ (by omega)
      have wi2 : IntKind.i64.wrap (col + (i : Int)) = col + (i : Int) := IntWalk.i64_in _ (by omega)
      have wi3 : IntKind.i64.wrap (row + (i : Int)) = row + (i : Int) := IntWalk.i64_in _ (by omega)
      have hk0 : (0 : Int) ≤ (i : Int) := by omega
      have hk1 : (i : Int) < (word.size : Int) := by omega
      cases down with
      | true =>
        have HIN : Hid (∀ W, BAt W w.heap.size 0 b → Calls Tryz.prog 240 #[.pointer (some ⟨w.heap.size, 0, none⟩), .int .i64 (row + (i : Int)), .int .i64 (col)] W fun e w' => e = .returned (.bool (b.inB (row + (i : Int)) (col))) ∧ Below W.heap.size W w') := Lib.hid (fun W h => (l11In_any b n (row + (i : Int)) (col) w.heap.size 0 W HGD.out h).mono (by rintro e w' ⟨h1, h2⟩; exact ⟨h1, by rw [← h2]; exact Below.refl _ _⟩))
        have HAT : Hid (b.inB (row + (i : Int)) (col) = true → ∀ W, BAt W w.heap.size 0 b → Calls Tryz.prog 192 #[.pointer (some ⟨w.heap.size, 0, none⟩), .int .i64 (row + (i : Int)), .int .i64 (col)] W fun e w' => e = .returned (.int .u8 ((b.cell (row + (i : Int)) (col)).toNat : Int)) ∧ Below W.heap.size W w') := Lib.hid (fun hin W h => (l11At_any b n (row + (i : Int)) (col) w.heap.size 0 W HGD.out h hin).mono (by rintro e w' ⟨h1, h2⟩; exact ⟨h1, h2.below _⟩))
        have HST : Hid (b.inB (row + (i : Int)) (col) = true → ∀ W, BAt W w.heap.size 0 b → Calls Tryz.prog 252 #[.pointer (some ⟨w.heap.size, 0, none⟩), .int .i64 (row + (i : Int)), .int .i64 (col), .int .u8 (word[i].toNat : Int)] W (GoodBack n W)) := Lib.hid (fun hin W h => l11Set_any b n (row + (i : Int)) (col) word[i] w.heap.size 0 W HGD.out h hin (HL.out i hil))
        generalize hcell : b.cell (row + (i : Int)) (col) = ch at *
        generalize hin : b.inB (row + (i : Int)) (col) = yes at *
        clear hcell hin
        go_upto_region 9 with fail
        cases yes with
        | false =>
          refine wp_region_quiet_below (by kernel_rfl) (by kernel_rfl) ?_
          repeat (go_big_quiet_step ((first | (go_at_call 240; exact Calls.regrown_of (HIN.out _ (HB.out.kept (below_regrown _ _ _)))) | (go_at_call 192; exact Calls.regrown_of (HAT.out _ (HB.out.kept (below_regrown _ _ _)))))))
          refine wpQuiet_nil ?_
          intro wx hw'
          have hd := below_of_ex hw'
          clear hw'
          replace hb := hb.trans (hd.mono hb.size)
          replace V5 := Lib.hid (V5.out.kept hd)
          replace VR := Lib.hid (VR.out.kept hd)
          replace HB := Lib.hid (HB.out.kept hd)
          clear hd
          clear HB HIN HAT HST
          go_wp2
          go_roundw
          case rel => exact ⟨i + 1, b, by omega, by go_num, HGD, V5, VR, hb⟩
          case measure => simp [intOf]; omega
        | true =>
          replace HAT := Lib.hid (HAT.out rfl)
          replace HST := Lib.hid (HST.out rfl)
          cases h46 : ((ch.toNat : Int) == 46) with
          | true =>
            refine wp_region_quiet_below (by kernel_rfl) (by kernel_rfl) ?_
            repeat (go_big_quiet_step ((first | (go_at_call 240; exact Calls.regrown_of (HIN.out _ (HB.out.kept (below_regrown _ _ _)))) | (go_at_call 192; exact Calls.regrown_of (HAT.out _ (HB.out.kept (below_regrown _ _ _)))))))
            refine wpQuiet_nil ?_
            intro wx hw'
            have hd := below_of_ex hw'
            clear hw'
            replace hb := hb.trans (hd.mono hb.size)
            replace V5 := Lib.hid (V5.out.kept hd)
            replace VR := Lib.hid (VR.out.kept hd)
            replace HB := Lib.hid (HB.out.kept hd)
            clear hd
            go_wp2_with fail
            refine (HST.out _ HB.out).mono ?_
            rintro e w3 ⟨b2, g2, rfl, hd⟩
            replace hb := hb.trans (hd.mono hb.size)
            replace V5 := Lib.hid (V5.out.kept hd)
            replace VR := Lib.hid (VR.out.kept hd)
            clear hd
            clear HB HIN HAT HST HGD
            have HGD := Lib.hid g2
            clear g2
            have c0 := V5.out.cell (i := 0) rfl
            have c1 := V5.out.cell (i := 1) rfl
            have c2 := V5.out.cell (i := 2) rfl
            have f0 := V5.out.free 0
            have f1 := V5.out.free 1
            have f2 := V5.out.free 2
            obtain ⟨o0, k0⟩ := V5.out.set 0 (.int .i64 (n : Int))
            obtain ⟨o1, k1⟩ := o0.set 1 (.string b2.premium)
            obtain ⟨o2, k2⟩ := o1.set 2 (.string b2.cells)
            have GG := grownBy_trans (grownBy_trans k0 k1) k2
            clear o0 o1 k0 k1 k2
            replace hb := hb.grown GG hb.size (fun q h => by cases h; omega)
            replace VR := Lib.hid (VR.out.grown GG (by simp))
            replace V5 := Lib.hid o2
            clear o2 GG
            go_wp2
            go_roundw
            case rel => exact ⟨i + 1, b2, by omega, by go_num, HGD, V5, VR, hb⟩
            case measure => simp [intOf]; omega
          | false =>
            cases hlt : ((ch.toNat : Int) == (word[i].toNat : Int)) with
            | true =>
              refine wp_region_quiet_below (by kernel_rfl) (by kernel_rfl) ?_
              repeat (go_big_quiet_step ((first | (go_at_call 240; exact Calls.regrown_of (HIN.out _ (HB.out.kept (below_regrown _ _ _)))) | (go_at_call 192; exact Calls.regrown_of (HAT.out _ (HB.out.kept (below_regrown _ _ _)))))))
              refine wpQuiet_nil ?_
              intro wx hw'
              have hd := below_of_ex hw'
              clear hw'
              replace hb := hb.trans (hd.mono hb.size)
              replace V5 := Lib.hid (V5.out.kept hd)
              replace VR := Lib.hid (VR.out.kept hd)
              replace HB := Lib.hid (HB.out.kept hd)
              clear hd
              go_wp2_with fail
              refine (HST.out _ HB.out).mono ?_
              rintro e w3 ⟨b2, g2, rfl, hd⟩
              replace hb := hb.trans (hd.mono hb.size)
              replace V5 := Lib.hid (V5.out.kept hd)
              replace VR := Lib.hid (VR.out.kept hd)
              clear hd
              clear HB HIN HAT HST HGD
              have HGD := Lib.hid g2
              clear g2
              have c0 := V5.out.cell (i := 0) rfl
              have c1 := V5.out.cell (i := 1) rfl
              have c2 := V5.out.cell (i := 2) rfl
              have f0 := V5.out.free 0
              have f1 := V5.out.free 1
              have f2 := V5.out.free 2
              obtain ⟨o0, k0⟩ := V5.out.set 0 (.int .i64 (n : Int))
              obtain ⟨o1, k1⟩ := o0.set 1 (.string b2.premium)
              obtain ⟨o2, k2⟩ := o1.set 2 (.string b2.cells)
              have GG := grownBy_trans (grownBy_trans k0 k1) k2
              clear o0 o1 k0 k1 k2
              replace hb := hb.grown GG hb.size (fun q h => by cases h; omega)
              replace VR := Lib.hid (VR.out.grown GG (by simp))
              replace V5 := Lib.hid o2
              clear o2 GG
              go_wp2
              go_roundw
              case rel => exact ⟨i + 1, b2, by omega, by go_num, HGD, V5, VR, hb⟩
              case measure => simp [intOf]; omega
            | false =>
              refine wp_region_quiet_below (by kernel_rfl) (by kernel_rfl) ?_
              repeat (go_big_quiet_step ((first | (go_at_call 240; exact Calls.regrown_of (HIN.out _ (HB.out.kept (below_regrown _ _ _)))) | (go_at_call 192; exact Calls.regrown_of (HAT.out _ (HB.out.kept (below_regrown _ _ _)))))))
              refine wpQuiet_nil ?_
              intro wx hw'
              have hd := below_of_ex hw'
              clear hw'
              replace hb := hb.trans (hd.mono hb.size)
              replace V5 := Lib.hid (V5.out.kept hd)
              replace VR := Lib.hid (VR.out.kept hd)
              replace HB := Lib.hid (HB.out.kept hd)
              clear hd
              clear HB HIN HAT HST
              go_wp2
              go_roundw
              case rel => exact ⟨i + 1, b, by omega, by go_num, HGD, V5, VR, hb⟩
              case measure => simp [intOf]; omega
      | false =>
        have HIN : Hid (∀ W, BAt W w.heap.size 0 b → Calls Tryz.prog 240 #[.pointer (some ⟨w.heap.size, 0, none⟩), .int .i64 (row), .int .i64 (col + (i : Int))] W fun e w' => e = .returned (.bool (b.inB (row) (col + (i : Int)))) ∧ Below W.heap.size W w') := Lib.hid (fun W h => (l11In_any b n (row) (col + (i : Int)) w.heap.size 0 W HGD.out h).mono (by rintro e w' ⟨h1, h2⟩; exact ⟨h1, by rw [← h2]; exact Below.refl _ _⟩))
        have HAT : Hid (b.inB (row) (col + (i : Int)) = true → ∀ W, BAt W w.heap.size 0 b → Calls Tryz.prog 192 #[.pointer (some ⟨w.heap.size, 0, none⟩), .int .i64 (row), .int .i64 (col + (i : Int))] W fun e w' => e = .returned (.int .u8 ((b.cell (row) (col + (i : Int))).toNat : Int)) ∧ Below W.heap.size W w') := Lib.hid (fun hin W h => (l11At_any b n (row) (col + (i : Int)) w.heap.size 0 W HGD.out h hin).mono (by rintro e w' ⟨h1, h2⟩; exact ⟨h1, h2.below _⟩))
        have HST : Hid (b.inB (row) (col + (i : Int)) = true → ∀ W, BAt W w.heap.size 0 b → Calls Tryz.prog 252 #[.pointer (some ⟨w.heap.size, 0, none⟩), .int .i64 (row), .int .i64 (col + (i : Int)), .int .u8 (word[i].toNat : Int)] W (GoodBack n W)) := Lib.hid (fun hin W h => l11Set_any b n (row) (col + (i : Int)) word[i] w.heap.size 0 W HGD.out h hin (HL.out i hil))
        generalize hcell : b.cell (row) (col + (i : Int)) = ch at *
        generalize hin : b.inB (row) (col + (i : Int)) = yes at *
        clear hcell hin
        go_upto_region 9 with fail
        cases yes with
        | false =>
          refine wp_region_quiet_below (by kernel_rfl) (by kernel_rfl) ?_
          repeat (go_big_quiet_step ((first | (go_at_call 240; exact Calls.regrown_of (HIN.out _ (HB.out.kept (below_regrown _ _ _)))) | (go_at_call 192; exact Calls.regrown_of (HAT.out _ (HB.out.kept (below_regrown _ _ _)))))))
          refine wpQuiet_nil ?_
          intro wx hw'
          have hd := below_of_ex hw'
          clear hw'
          replace hb := hb.trans (hd.mono hb.size)
          replace V5 := Lib.hid (V5.out.kept hd)
          replace VR := Lib.hid (VR.out.kept hd)
          replace HB := Lib.hid (HB.out.kept hd)
          clear hd
          clear HB HIN HAT HST
          go_wp2
          go_roundw
          case rel => exact ⟨i + 1, b, by omega, by go_num, HGD, V5, VR, hb⟩
          case measure => simp [intOf]; omega
        | true =>
          replace HAT := Lib.hid (HAT.out rfl)
          replace HST := Lib.hid (HST.out rfl)
          cases h46 : ((ch.toNat : Int) == 46) with
          | true =>
            refine wp_region_quiet_below (by kernel_rfl) (by kernel_rfl) ?_
            repeat (go_big_quiet_step ((first | (go_at_call 240; exact Calls.regrown_of (HIN.out _ (HB.out.kept (below_regrown _ _ _)))) | (go_at_call 192; exact Calls.regrown_of (HAT.out _ (HB.out.kept (below_regrown _ _ _)))))))
            refine wpQuiet_nil ?_
            intro wx hw'
            have hd := below_of_ex hw'
            clear hw'
            replace hb := hb.trans (hd.mono hb.size)
            replace V5 := Lib.hid (V5.out.kept hd)
            replace VR := Lib.hid (VR.out.kept hd)
            replace HB := Lib.hid (HB.out.kept hd)
            clear hd
            go_wp2_with fail
            refine (HST.out _ HB.out).mono ?_
            rintro e w3 ⟨b2, g2, rfl, hd⟩
            replace hb := hb.trans (hd.mono hb.size)
            replace V5 := Lib.hid (V5.out.kept hd)
            replace VR := Lib.hid (VR.out.kept hd)
            clear hd
            clear HB HIN HAT HST HGD
            have HGD := Lib.hid g2
            clear g2
            have c0 := V5.out.cell (i := 0) rfl
            have c1 := V5.out.cell (i := 1) rfl
            have c2 := V5.out.cell (i := 2) rfl
            have f0 := V5.out.free 0
            have f1 := V5.out.free 1
            have f2 := V5.out.free 2
            obtain ⟨o0, k0⟩ := V5.out.set 0 (.int .i64 (n : Int))
            obtain ⟨o1, k1⟩ := o0.set 1 (.string b2.premium)
            obtain ⟨o2, k2⟩ := o1.set 2 (.string b2.cells)
            have GG := grownBy_trans (grownBy_trans k0 k1) k2
            clear o0 o1 k0 k1 k2
            replace hb := hb.grown GG hb.size (fun q h => by cases h; omega)
            replace VR := Lib.hid (VR.out.grown GG (by simp))
            replace V5 := Lib.hid o2
            clear o2 GG
            go_wp2
            go_roundw
            case rel => exact ⟨i + 1, b2, by omega, by go_num, HGD, V5, VR, hb⟩
            case measure => simp [intOf]; omega
          | false =>
            cases hlt : ((ch.toNat : Int) == (word[i].toNat : Int)) with
            | true =>
              refine wp_region_quiet_below (by kernel_rfl) (by kernel_rfl) ?_
              repeat (go_big_quiet_step ((first | (go_at_call 240; exact Calls.regrown_of (HIN.out _ (HB.out.kept (below_regrown _ _ _)))) | (go_at_call 192; exact Calls.regrown_of (HAT.out _ (HB.out.kept (below_regrown _ _ _)))))))
              refine wpQuiet_nil ?_
              intro wx hw'
              have hd := below_of_ex hw'
              clear hw'
              replace hb := hb.trans (hd.mono hb.size)
              replace V5 := Lib.hid (V5.out.kept hd)
              replace VR := Lib.hid (VR.out.kept hd)
              replace HB := Lib.hid (HB.out.kept hd)
              clear hd
              go_wp2_with fail
              refine (HST.out _ HB.out).mono ?_
              rintro e w3 ⟨b2, g2, rfl, hd⟩
              replace hb := hb.trans (hd.mono hb.size)
              replace V5 := Lib.hid (V5.out.kept hd)
              replace VR := Lib.hid (VR.out.kept hd)
              clear hd
              clear HB HIN HAT HST HGD
              have HGD := Lib.hid g2
              clear g2
              have c0 := V5.out.cell (i := 0) rfl
              have c1 := V5.out.cell (i := 1) rfl
              have c2 := V5.out.cell (i := 2) rfl
              have f0 := V5.out.free 0
              have f1 := V5.out.free 1
              have f2 := V5.out.free 2
              obtain ⟨o0, k0⟩ := V5.out.set 0 (.int .i64 (n : Int))
              obtain ⟨o1, k1⟩ := o0.set 1 (.string b2.premium)
              obtain ⟨o2, k2⟩ := o1.set 2 (.string b2.cells)
              have GG := grownBy_trans (grownBy_trans k0 k1) k2
              clear o0 o1 k0 k1 k2
              replace hb := hb.grown GG hb.size (fun q h => by cases h; omega)
              replace VR := Lib.hid (VR.out.grown GG (by simp))
              replace V5 := Lib.hid o2
              clear o2 GG
              go_wp2
              go_roundw
              case rel => exact ⟨i + 1, b2, by omega, by go_num, HGD, V5, VR, hb⟩
              case measure => simp [intOf]; omega
            | false =>
              refine wp_region_quiet_below (by kernel_rfl) (by kernel_rfl) ?_
              repeat (go_big_quiet_step ((first | (go_at_call 240; exact Calls.regrown_of (HIN.out _ (HB.out.kept (below_regrown _ _ _)))) | (go_at_call 192; exact Calls.regrown_of (HAT.out _ (HB.out.kept (below_regrown _ _ _)))))))
              refine wpQuiet_nil ?_
              intro wx hw'
              have hd := below_of_ex hw'
              clear hw'
              replace hb := hb.trans (hd.mono hb.size)
              replace V5 := Lib.hid (V5.out.kept hd)
              replace VR := Lib.hid (VR.out.kept hd)
              replace HB := Lib.hid (HB.out.kept hd)
              clear hd
              clear HB HIN HAT HST
              go_wp2
              go_roundw
              case rel => exact ⟨i + 1, b, by omega, by go_num, HGD, V5, VR, hb⟩
              case measure => simp [intOf]; omega
    · obtain rfl : i = word.size := by omega
      have c0 := V5.out.cell (i := 0) rfl
      have c1 := V5.out.cell (i := 1) rfl
      have c2 := V5.out.cell (i := 2) rfl
      generalize hbp : b.premium = bp at *
      generalize hbc : b.cells = bc at *
      have t0 := VR.out.cell (i := 0) rfl
      have t1 := VR.out.cell (i := 1) rfl
      have t2 := VR.out.cell (i := 2) rfl
      have u0 := VR.out.free 0
      have u1 := VR.out.free 1
      have u2 := VR.out.free 2
      obtain ⟨o0, k0⟩ := VR.out.set 0 (.int .i64 (n : Int))
      obtain ⟨o1, k1⟩ := o0.set 1 (.string bp)
      obtain ⟨o2, k2⟩ := o1.set 2 (.string bc)
      have GG := grownBy_trans (grownBy_trans k0 k1) k2
      have hb9 := hb.grown GG hb.size (fun q h => by cases h; omega)
      have e0 := o2.cell (i := 0) (v := .int .i64 (n : Int)) rfl
      have e1 := o2.cell (i := 1) (v := .string bp) rfl
      have e2 := o2.cell (i := 2) (v := .string bc) rfl
      clear o0 o1 o2 k0 k1 k2 GG V5 VR HL
      go_wp2
      refine bodyPost_ret (v := .agg #[.int .i64 (n : Int), .string bp, .string bc]) (by simp [results, Tryz.results198, go_sem, e0, e1, e2]) rfl ?_
      exact ⟨b, HGD.out, by rw [hbp, hbc], hb9⟩
end Go.Proofs.YtjdcdhhbgijaoaaGreatDoor
