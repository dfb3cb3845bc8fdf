/- Steps of a region that draws its order (for a seat without games): an operation that may c · Contracts: the reference's standard board and its empty board (for seats without games). F · Plain: what a step may write (for a seat without games). No condition. · Plain: how the two sides read the text of a tile set, word by word; a tile set in a box, i -/
import Derived.Test.YtjdcdhhbgijaoaaGreatDoorLex
import Derived.Deep.DeepMust
import Derived.Deep.MidRow
import Derived.Test.YtjdcdhhbgijaoaaGreatDoorBrD
import Derived.Test.YtjdcdhhbgijaoaaGreatDoorLgD
import Derived.Test.YtjdcdhhbgijaoaaGreatDoorTiC
import Derived.Test.YtjdcdhhbgijaoaaGreatDoorMkTz
import Derived.Test.YtjdcdhhbgijaoaaGreatDoorScE
import Derived.Lib.IndexMore
import Derived.Lib.SmallJoins
namespace Go.Proofs.YtjdcdhhbgijaoaaGreatDoor
open Go.ChangeShapes Go.WideShapes Go.ChangeAt Go.RowKit Go.Sort

theorem wpAnyH_slot {P : Program} {md : Region.Mode} {ops : Array Oper} {Q : Exit → Act → World → Prop} {S : World → Prop} {i : Nat} {oi : Oper} (d : Nat) {v : Value} {fuel : Nat} {listed : Array Bool} {a : Act} {w : World} (hi : ops[i]? = some oi) (hd : oi.dst = some d)
    (hs : Region.noSelect ops = true) (hf : Region.free md ops listed i = true) (hr : (Region.ready md ops listed).contains i = true)
    (hQ : ∀ c a w, Q (.panic c) (a.put oi.dst v) w → Q (.panic c) a w) (hy : YieldsIf P ops S oi v a) (hS : S w)
    (h : wpAnyH P md ops Q S fuel (listed.setIfInBounds i true) { a with tmps := a.tmps.setIfInBounds d v } w) : wpAnyH P md ops Q S (fuel + 1) listed a w :=
  wpAnyH_take hi hs hf hr hQ hy hS (by rw [hd]; exact h)
theorem slotA {P : Program} {md : Region.Mode} {ops : Array Oper} {Q : Exit → Act → World → Prop} {S : World → Prop} {oi : Oper} {fuel : Nat} {listed : Array Bool} {a : Act} {w : World} (i d : Nat) (v : Value)
    (h : wpAnyH P md ops Q S fuel (listed.setIfInBounds i true) { a with tmps := a.tmps.setIfInBounds d v } w)
    (hi : ops[i]? = some oi := by exact rfl) (hd : oi.dst = some d := by exact rfl) (hs : Region.noSelect ops = true := by kernel_rfl) (hf : Region.free md ops listed i = true := by kernel_rfl) (hr : (Region.ready md ops listed).contains i = true := by kernel_rfl)
    (hQ : ∀ c a w, Q (.panic c) (a.put oi.dst v) w → Q (.panic c) a w := by exact fun _ _ _ h => h) (hy : YieldsIf P ops S oi v a := by exact Or.inl ⟨by rfl, fun w' _ => by go_simp⟩) (hS : S w := by assumption) : wpAnyH P md ops Q S (fuel + 1) listed a w :=
  wpAnyH_slot d hi hd hs hf hr hQ hy hS h
theorem S3 {α : Type} : (∀ (l : List α) (i : Nat) (x : α), l.toArray.setIfInBounds i x = (l.set i x).toArray) ∧ (∀ (y : α) (l : List α) (x : α), (y :: l).set 0 x = x :: l) ∧ ∀ (y : α) (l : List α) (n : Nat) (x : α), (y :: l).set (n + 1) x = y :: l.set n x :=
  ⟨fun l i x => List.setIfInBounds_toArray l i x, fun _ _ _ => rfl, fun _ _ _ _ => rfl⟩
end Go.Proofs.YtjdcdhhbgijaoaaGreatDoor
namespace Go.Proofs.YtjdcdhhbgijaoaaGreatDoor
open Go.ChangeShapes Go.WideShapes Go.ChangeAt Go.RowKit Go.Sort

def mnI (a b : Int) : Int := if a < b then a else b
def mxI (a b : Int) : Int := if a > b then a else b
theorem mnI_rng {a b l h : Int} (ha : l ≤ a ∧ a ≤ h) (hb : l ≤ b ∧ b ≤ h) : l ≤ mnI a b ∧ mnI a b ≤ h := by unfold mnI; split <;> omega
theorem mxI_rng {a b l h : Int} (ha : l ≤ a ∧ a ≤ h) (hb : l ≤ b ∧ b ≤ h) : l ≤ mxI a b ∧ mxI a b ≤ h := by unfold mxI; split <;> omega
/-- the premium of a square that lies a and b from the edges; h: half of the last row's number -/
def stdA (a b h : Int) : Int := if a = 0 ∧ (b = 0 ∨ b = h) then 116 else if a = b then 100 else if (a + b) % 6 = 4 then 51 else if (a + b) % 4 = 3 then 50 else 46
def stdC (n r c : Int) : Int := stdA (mnI (mnI r (n - 1 - r)) (mnI c (n - 1 - c))) (mxI (mnI r (n - 1 - r)) (mnI c (n - 1 - c))) ((n - 1) / 2)
def stdB (n r c : Int) : UInt8 := UInt8.ofNat (stdC n r c).toNat
theorem stdB_val (n r c : Int) : ((stdB n r c).toNat : Int) = stdC n r c := by
  unfold stdB stdC stdA
  split
  · rfl
  · split
    · rfl
    · split
      · rfl
      · split <;> rfl
def stdL (n : Nat) : List UInt8 := (List.range (n * n)).map (fun k => stdB n ((k / n : Nat) : Int) ((k % n : Nat) : Int))
theorem stdL_len (n : Nat) : (stdL n).length = n * n := by simp [stdL]
theorem stdL_take {n r c m : Nat} (hr : r < n) (hc : c < n) (hm : m = r * n + c) : (stdL n).take (m + 1) = (stdL n).take m ++ [stdB n r c] := by
  have h1 : r * n + c < n * n := row_ltn hr hc
  have hlt : m < (stdL n).length := by rw [stdL_len, hm]; exact h1
  rw [List.take_succ_eq_append_getElem hlt]
  congr 1
  have e1 : m / n = r := by rw [hm, Nat.mul_comm, Nat.mul_add_div (by omega), Nat.div_eq_of_lt hc, Nat.add_zero]
  have e2 : m % n = c := by rw [hm, Nat.mul_comm, Nat.mul_add_mod, Nat.mod_eq_of_lt hc]
  simp only [stdL, List.getElem_map, List.getElem_range, e1, e2]
/-- a standard board, and a code -/
def stdBoard (z : Int) : Brd × Int := if withinB z 5 15 = true then (⟨z, mkB (stdL z.toNat), mkB (List.replicate (z.toNat * z.toNat) 46)⟩, 0) else (⟨0, ⟨#[]⟩, ⟨#[]⟩⟩, 2)
/-- a struct of whatever size is stored, in a region that draws -/
theorem step_store {P : Program} {w : World} {ops : Array Oper} {o : Oper} {act : Act} {K : Act → World → Prop} {Q : Exit → Act → World → Prop} {E : Prop} (hgd : o.guard = none) (ty : TypeId) (x y : Operand) (ho : o.op = .store ty x y)
    (b off : Nat) (cells : Array Value) (hx : act.eval x = .pointer (some ⟨b, off, none⟩)) (hy : act.eval y = .agg cells)
    (ht : w.there b off cells.size) (hi : (P.info? ty).map (·.size) = some cells.size) (h1 : cells.all (·.oneCell') = true)
    (h : K (act.put o.dst undef) (w.setCells b off cells.toList)) : if Region.wanted o (yielded ops act.tmps) = true then Oper.wp P o act w K Q else E := by
  have hw : Region.wanted o (yielded ops act.tmps) = true := by simp [Region.wanted, hgd]
  rw [if_pos hw]
  exact wp_store_mid ty x y ho b off cells hx hy ht hi h1 h
theorem mk_store {P : Program} {w : World} {ops : Array Oper} {o : Oper} {act : Act} {K : Act → World → Prop} {Q : Exit → Act → World → Prop} {E : Prop} (hgd : o.guard = none) (hds : o.dst = none) (ty : TypeId) (x y : Operand) (ho : o.op = .store ty x y)
    (b off : Nat) (cells : Array Value) (hx : act.eval x = .pointer (some ⟨b, off, none⟩)) (hy : act.eval y = .agg cells)
    (ht : w.there b off cells.size) (hi : (P.info? ty).map (·.size) = some cells.size) (h1 : cells.all (·.oneCell') = true)
    (h : K act (w.setCells b off cells.toList)) : if Region.wanted o (yielded ops act.tmps) = true then Oper.wp P o act w K Q else E :=
  step_store hgd ty x y ho b off cells hx hy ht hi h1 (by rw [hds]; exact h)
theorem mkMin_any (a b : Int) (w : World) : Calls Tryz.prog 279 #[.int .i64 a, .int .i64 b] w fun e w' => e = .returned (.int .i64 (mnI a b)) ∧ w = w' := by
  go_enter Tryz.func279, Tryz.ntmps279
  go_wp2
  all_goals
    go_ret
    exact ⟨ret_int (by unfold mnI; split <;> omega), rfl⟩
theorem mkMax_any (a b : Int) (w : World) : Calls Tryz.prog 280 #[.int .i64 a, .int .i64 b] w fun e w' => e = .returned (.int .i64 (mxI a b)) ∧ w = w' := by
  go_enter Tryz.func280, Tryz.ntmps280
  go_wp2
  all_goals
    go_ret
    exact ⟨ret_int (by unfold mxI; split <;> omega), rfl⟩
/-- the square's distances from the edges are small -/
theorem near {n r : Int} (hn : 5 ≤ n ∧ n ≤ 15) (hr : 0 ≤ r ∧ r ≤ n - 1) : 0 ≤ mnI r (n - 1 - r) ∧ mnI r (n - 1 - r) ≤ 14 := by unfold mnI; split <;> omega
set_option maxHeartbeats 4000000 in
theorem l11Standard_any (n r c : Int) (w : World) (hn : 5 ≤ n ∧ n ≤ 15) (hr : 0 ≤ r ∧ r ≤ n - 1) (hc : 0 ≤ c ∧ c ≤ n - 1) :
    Calls Tryz.prog 251 #[.int .i64 n, .int .i64 r, .int .i64 c] w fun e w' => e = .returned (.int .u8 ((stdB n r c).toNat : Int)) ∧ w = w' := by
  have HV : Hid (((stdB n r c).toNat : Int) = stdC n r c) := Lib.hid (stdB_val n r c)
  unfold stdC at HV
  have hx := near hn hr
  have hy := near hn hc
  have ha := mnI_rng hx hy
  have hb := mxI_rng hx hy
  obtain ⟨hn0, hn1⟩ := hn
  obtain ⟨hr0, hr1⟩ := hr
  obtain ⟨hc0, hc1⟩ := hc
  go_enter Tryz.func251, Tryz.ntmps251
  go_wp2_with fail
  refine (mkMin_any _ _ _).mono ?_
  rintro e w' ⟨rfl, rfl⟩
  generalize mnI r (n - 1 - r) = x at *
  go_wp2_with fail
  refine (mkMin_any _ _ _).mono ?_
  rintro e w' ⟨rfl, rfl⟩
  generalize mnI c (n - 1 - c) = y at *
  go_wp2_with fail
  refine (mkMin_any _ _ _).mono ?_
  rintro e w' ⟨rfl, rfl⟩
  go_wp2_with fail
  refine (mkMax_any _ _ _).mono ?_
  rintro e w' ⟨rfl, rfl⟩
  generalize mnI x y = a at *
  generalize mxI x y = b at *
  obtain ⟨ha0, ha1⟩ := ha
  obtain ⟨hb0, hb1⟩ := hb
  clear hx hy
  by_cases h1 : a = 0
  · by_cases h2 : b = 0
    · go_wp2
      all_goals
        go_ret
        exact ⟨ret_int (by rw [HV.out]; unfold stdA; (try simp only [beq_iff_eq, beq_eq_false_iff_ne, ne_eq] at *); (repeat' split) <;> omega), rfl⟩
    · by_cases h3 : b = (n - 1) / 2
      · go_wp2
        all_goals
          go_ret
          exact ⟨ret_int (by rw [HV.out]; unfold stdA; (try simp only [beq_iff_eq, beq_eq_false_iff_ne, ne_eq] at *); (repeat' split) <;> omega), rfl⟩
      · go_wp2
        all_goals
          go_ret
          exact ⟨ret_int (by rw [HV.out]; unfold stdA; (try simp only [beq_iff_eq, beq_eq_false_iff_ne, ne_eq] at *); (repeat' split) <;> omega), rfl⟩
  · go_wp2
    all_goals
      go_ret
      exact ⟨ret_int (by rw [HV.out]; unfold stdA; (try simp only [beq_iff_eq, beq_eq_false_iff_ne, ne_eq] at *); (repeat' split) <;> omega), rfl⟩
set_option maxRecDepth 100000 in
set_option maxHeartbeats 4000000 in
theorem l02Repeat_any (c : UInt8) (n : Nat) (w : World) (hn : n ≤ 100000) :
    Calls Tryz.prog 101 #[.int .u8 (c.toNat : Int), .int .i64 (n : Int)] w (StrPost w (List.replicate n c)) := by
  obtain ⟨i0, hi0, hi1, hi2, hi3⟩ := info_parts infoByte
  have hd0 : Below w.heap.size w (w.alloc (.cells #[] 5)) := (Below.refl _ _).alloc (Nat.le_refl _) _
  have HO : Hid ((w.alloc (.cells #[] 5)).ownsRow w.heap.size 5 1 (.slice (some ⟨w.heap.size, 0, none⟩) 0 0) 0 ((List.replicate 0 c).flatMap U8.enc)) := Lib.hid (
    World.ownsRow_made (base := w.heap.size) (e := 5) (size := 1) w #[] 0 (Nat.le_refl _) (by unfold maxLen; omega) rfl)
  have hb := hd0
  have HSN : Hid (∀ k, (List.replicate (k + 1) c) = List.replicate k c ++ [c]) := Lib.hid (fun k => rep_snoc k c)
  have HLN : Hid (∀ k, (List.replicate k c).length = k) := Lib.hid (fun k => List.length_replicate)
  clear hd0
  obtain ⟨rp, hrp⟩ : ∃ rp : Nat → List UInt8, ∀ k, rp k = List.replicate k c := ⟨_, fun _ => rfl⟩
  have HRP := Lib.hid hrp
  simp only [← hrp] at HO HSN HLN ⊢
  clear hrp
  go_enter Tryz.func101, Tryz.ntmps101
  go_wp2_with fail
  go_loopw [1, 5] (fun nv ov wr => ∃ (k g1 cap : Nat), k ≤ n ∧ nv = .int .i64 ((n - k : Nat) : Int) ∧ ov = .slice (some ⟨g1, 0, none⟩) k cap ∧ Hid (wr.ownsRow w.heap.size 5 1 (.slice (some ⟨g1, 0, none⟩) k cap) k ((rp k).flatMap U8.enc)) ∧ Below w.heap.size w wr) (fun nv _ _ => (intOf nv).toNat)
  case atStart => exact ⟨0, _, 0, Nat.zero_le _, rfl, rfl, HO, hb⟩
  case round =>
    clear HO hb
    obtain ⟨k, g1, cap, hk, rfl, rfl, HO, hb⟩ := hrel
    by_cases h0 : 0 < n - k
    · have hnk : ((n - (k + 1) : Nat) : Int) = ((n - k : Nat) : Int) - 1 := by omega
      have HNK := Lib.hid hnk
      have hp0 : 0 < ((n - k : Nat) : Int) := by omega
      have hk1 : k + 1 ≤ n := by omega
      have hdn : n - k ≤ 100000 := by omega
      clear hnk
      generalize n - k = d at *
      have wr1 : IntKind.i64.wrap ((d : Int) - 1) = (d : Int) - 1 := IntWalk.i64_in _ (by omega)
      have hx : Below wr.heap.size wr (wr.alloc (.cells #[.int .u8 ((c.toNat : Int))] 5)) := (Below.refl _ _).alloc (Nat.le_refl _) _
      have KN := Lib.hid (new_byte wr c 5)
      have HOX := Lib.hid (own_below HO.out hx)
      have hz2 := hb.size
      have hbx := hb.trans (hx.mono hb.size)
      have HS := Lib.hid (HSN.out k)
      clear hx HO hb
      go_wp2_with (at_builtin; go_must (refine wpList_append_lies _ rfl (.tmp 11) (.tmp 13) 22 rfl w.heap.size 5 i0 _ 1 1 Tryz.underlying22 hi0 hi1 hi2 hi3 rfl (by decide) _ k ((rp k).flatMap U8.enc) (by rfl) HOX.out ⟨wr.heap.size, 0, none⟩ 1 1 (U8.enc c) (by rfl) rfl KN.out (u8_one1 c) (by decide) ?c1 ?c2 ?c3 _ rfl ?_))
      case c1 => unfold maxLen; omega
      case c2 => omega
      case c3 => (first | omega | (simp only [World.size_alloc]; omega))
      intro g7 cap7 w7 hown hgr hwh hlt7
      have hb7 := hbx.grown hgr hbx.size (fun q e => by have := (HOX.out.lt q e).1; omega)
      have HO7 : Hid (w7.ownsRow w.heap.size 5 1 (.slice (some ⟨g7, 0, none⟩) (k + 1) cap7) (k + 1) ((rp (k + 1)).flatMap U8.enc)) := Lib.hid (by rw [HS.out, snoc_flat U8.enc]; exact hown)
      clear hown hgr hwh KN hlt7 HOX hbx hz2 HS
      go_wp2
      go_roundw
      case rel => exact ⟨k + 1, g7, cap7, hk1, by rw [HNK.out], rfl, HO7, hb7⟩
      case measure => simp [intOf]; omega
    · obtain rfl : k = n := by omega
      rw [Nat.sub_self]
      have hcv := own_bytes HO.out (HLN.out _).symm
      clear HO HSN
      go_wp2
      go_ret
      exact ⟨rfl, hb⟩
/-! ### All tiles -/
set_option maxRecDepth 100000 in
set_option maxHeartbeats 4000000 in
theorem specStandardBoard_any (z : Int) (w : World) :
    Calls Tryz.prog 197 #[.int .i64 z] w fun e w' => e = .returned (.tuple #[.agg #[.int .i64 (stdBoard z).1.size, .string (stdBoard z).1.premium, .string (stdBoard z).1.cells], .int .i64 (stdBoard z).2]) ∧ Below w.heap.size w w' := by
  obtain ⟨i0, hi0, hi1, hi2, hi3⟩ := info_parts infoByte
  have hb0 : Below w.heap.size w (w.alloc (.cells #[.int .i64 0, .string ⟨#[]⟩, .string ⟨#[]⟩] 25)) := (Below.refl _ _).alloc (Nat.le_refl _) _
  have V0 := Lib.hid (VarAt.new w 25 [.int .i64 0, .string ⟨#[]⟩, .string ⟨#[]⟩])
  have HSZ : Hid (∀ W, Calls Tryz.prog 100 #[.int .i64 z] W fun e w' => e = .returned (.bool (withinB z 5 15)) ∧ W = w') := Lib.hid (fun W => l11Size_any z W)
  cases hz : withinB z 5 15 with
  | false =>
    have HR : Hid (stdBoard z = (⟨0, ⟨#[]⟩, ⟨#[]⟩⟩, 2)) := Lib.hid (by unfold stdBoard; rw [hz]; rfl)
    rw [HR.out]
    rw [hz] at HSZ
    clear hz HR
    go_enter Tryz.func197, Tryz.ntmps197
    go_upto_region 1 with fail
    generalize w.alloc (.cells #[.int .i64 0, .string ⟨#[]⟩, .string ⟨#[]⟩] 25) = w1 at *
    go_wp2_with fail
    refine (HSZ.out _).mono ?_
    rintro e w2 ⟨rfl, rfl⟩
    clear HSZ
    have c0 := V0.out.cell (i := 0) rfl
    have c1 := V0.out.cell (i := 1) rfl
    have c2 := V0.out.cell (i := 2) rfl
    have f0 := V0.out.free 0
    have f1 := V0.out.free 1
    have f2 := V0.out.free 2
    obtain ⟨o0, k0⟩ := V0.out.set 0 (.int .i64 0)
    obtain ⟨o1, k1⟩ := o0.set 1 (.string ⟨#[]⟩)
    obtain ⟨o2, k2⟩ := o1.set 2 (.string ⟨#[]⟩)
    have GG := grownBy_trans (grownBy_trans k0 k1) k2
    have hb9 := hb0.grown GG hb0.size (fun q h => by cases h; exact Nat.le_refl _)
    have e0 := o2.cell (i := 0) (v := .int .i64 0) rfl
    have e1 := o2.cell (i := 1) (v := .string ⟨#[]⟩) rfl
    have e2 := o2.cell (i := 2) (v := .string ⟨#[]⟩) rfl
    clear o0 o1 o2 k0 k1 k2 GG
    go_wp2
    refine bodyPost_ret (v := .tuple #[.agg #[.int .i64 0, .string ⟨#[]⟩, .string ⟨#[]⟩], .int .i64 2]) (by simp [results, Tryz.results197, go_sem, e0, e1, e2]) rfl ?_
    exact ⟨rfl, hb9⟩
  | true =>
    have h5 : 5 ≤ z ∧ z ≤ 15 := by simpa only [withinB, Bool.and_eq_true, decide_eq_true_eq] using hz
    obtain ⟨n, rfl⟩ : ∃ n : Nat, z = (n : Int) := ⟨z.toNat, by omega⟩
    have hn5 : 5 ≤ n := by omega
    have hn : n ≤ 15 := by omega
    have HR : Hid (stdBoard (n : Int) = (⟨n, mkB (stdL n), mkB (List.replicate (n * n) 46)⟩, 0)) := Lib.hid (by unfold stdBoard; rw [hz]; rfl)
    rw [HR.out]
    rw [hz] at HSZ
    clear hz HR
    have HLN := Lib.hid (stdL_len n)
    have HTK := Lib.hid (fun (r c m : Nat) (h1 : r < n) (h2 : c < n) (h3 : m = r * n + c) => stdL_take (n := n) h1 h2 h3)
    have HST : Hid (∀ r c : Nat, r < n → c < n → ∀ W, Calls Tryz.prog 251 #[.int .i64 n, .int .i64 r, .int .i64 c] W fun e w' => e = .returned (.int .u8 ((stdB n r c).toNat : Int)) ∧ W = w') := Lib.hid (fun r c h1 h2 W => l11Standard_any n r c W (by omega) (by omega) (by omega))
    go_enter Tryz.func197, Tryz.ntmps197
    go_upto_region 1 with fail
    generalize w.alloc (.cells #[.int .i64 0, .string ⟨#[]⟩, .string ⟨#[]⟩] 25) = w1 at *
    go_wp2_with fail
    refine (HSZ.out _).mono ?_
    rintro e w2 ⟨rfl, rfl⟩
    clear HSZ
    have hb : Below w1.heap.size w1 (w1.alloc (.cells #[] 5)) := (Below.refl _ _).alloc (Nat.le_refl _) _
    have HO : Hid ((w1.alloc (.cells #[] 5)).ownsRow w1.heap.size 5 1 (.slice (some ⟨w1.heap.size, 0, none⟩) 0 0) 0 []) := Lib.hid (World.ownsRow_made (base := w1.heap.size) (e := 5) (size := 1) w1 #[] 0 (by simp) (by unfold maxLen; omega) rfl)
    go_upto_region 4 with fail
    generalize w1.alloc (.cells #[] 5) = w3 at *
    go_wp2_with fail
    go_loopw [4, 5] (fun ov iv wr => ∃ (r m g cap : Nat), r ≤ n ∧ iv = .int .i64 r ∧ ov = .slice (some ⟨g, 0, none⟩) m cap ∧ Hid (m = r * n) ∧ m ≤ 225 ∧ Hid (wr.ownsRow w1.heap.size 5 1 (.slice (some ⟨g, 0, none⟩) m cap) m (((stdL n).take m).flatMap U8.enc)) ∧ Below w1.heap.size w1 wr) (fun _ iv _ => n - (intOf iv).toNat)
    case atStart => exact ⟨0, 0, _, 0, Nat.zero_le _, rfl, rfl, Lib.hid (by simp), by omega, HO, hb⟩
    case round =>
      clear HO hb
      obtain ⟨r, m, g, cap, hr, rfl, rfl, HN, hm, HO, hb⟩ := hrel
      by_cases hlt : r < n
      · go_wp2_with fail
        obtain ⟨wo, rfl⟩ : ∃ wo : World, wo = wr := ⟨_, rfl⟩
        go_loopw [4, 6] (fun ov iv wr => ∃ (c m g cap : Nat), c ≤ n ∧ iv = .int .i64 c ∧ ov = .slice (some ⟨g, 0, none⟩) m cap ∧ Hid (m = r * n + c) ∧ m ≤ 225 ∧ Hid (wr.ownsRow w1.heap.size 5 1 (.slice (some ⟨g, 0, none⟩) m cap) m (((stdL n).take m).flatMap U8.enc)) ∧ Below w1.heap.size w1 wr) (fun _ iv _ => n - (intOf iv).toNat)
        case atStart => exact ⟨0, m, g, cap, Nat.zero_le _, rfl, rfl, Lib.hid (by rw [HN.out]; rfl), hm, HO, hb⟩
        case round =>
          clear HO hb hm HN
          obtain ⟨c, m, g2, cap2, hc, rfl, rfl, HM, hm, HO, hb⟩ := hrel
          by_cases hc2 : c < n
          · have HT := Lib.hid (HTK.out r c m hlt hc2 HM.out)
            have hm2 : m < 225 := by
              have h1 := HM.out
              have h2 := row_ltn hlt hc2
              have h3 := sq_mono hn
              omega
            have HM2 : Hid (m + 1 = r * n + (c + 1)) := Lib.hid (by have := HM.out; omega)
            have HS1 := Lib.hid (HST.out r c hlt hc2)
            clear HM
            generalize stdB (n : Int) (r : Int) (c : Int) = ch at *
            go_wp2_with fail
            refine (HS1.out _).mono ?_
            rintro e w4 ⟨rfl, rfl⟩
            clear HS1
            have hx : Below wr.heap.size wr (wr.alloc (.cells #[.int .u8 (ch.toNat : Int)] 5)) := (Below.refl _ _).alloc (Nat.le_refl _) _
            have KN := Lib.hid (new_byte wr ch 5)
            replace HO := Lib.hid (own_below HO.out hx)
            have hz2 := hb.size
            replace hb := hb.trans (hx.mono hb.size)
            clear hx
            go_wp2_with (at_builtin; go_must (refine wpList_append_own _ rfl (.tmp 22) (.tmp 27) 22 rfl w1.heap.size 5 i0 _ 1 1 Tryz.underlying22 hi0 hi1 hi2 hi3 rfl (by decide) _ m (((stdL n).take m).flatMap U8.enc) (by rfl) HO.out ⟨wr.heap.size, 0, none⟩ 1 1 (U8.enc ch) (by rfl) rfl KN.out (u8_one1 ch) ?c1 ?c2 ?c3 ?_))
            case c1 => unfold maxLen; omega
            case c2 => omega
            case c3 => (first | omega | (simp only [World.size_alloc]; omega))
            intro v' w7 hown hgr hnil
            obtain ⟨g7, cap7, rfl, _⟩ := own_some hown (fun e => by have h := hnil; rw [e] at h; simp at h)
            have hb7 := hb.grown hgr hb.size (fun q e => by have := (HO.out.lt q e).1; omega)
            have HO7 : Hid (w7.ownsRow w1.heap.size 5 1 (.slice (some ⟨g7, 0, none⟩) (m + 1) cap7) (m + 1) (((stdL n).take (m + 1)).flatMap U8.enc)) := Lib.hid (by
              rw [HT.out, snoc_flat U8.enc]; exact hown)
            clear hown hgr hnil KN HO hb HT
            go_wp2
            go_roundw
            case rel => exact ⟨c + 1, m + 1, g7, cap7, by omega, by go_num, by go_num, HM2, by omega, HO7, hb7⟩
            case measure => simp [intOf]; omega
          · obtain rfl : c = n := by omega
            have HM2 : Hid (m = (r + 1) * c) := Lib.hid (by rw [Nat.succ_mul]; exact HM.out)
            clear HM
            go_wp2
            go_roundw
            case rel => exact ⟨r + 1, m, g2, cap2, by omega, by go_num, rfl, HM2, hm, HO, hb⟩
            case measure => simp [intOf]; omega
      · obtain rfl : r = n := by omega
        have HE : Hid ((stdL r).take m = stdL r) := Lib.hid (List.take_of_length_le (by rw [HLN.out, HN.out]; exact Nat.le_refl _))
        have hO := HO.out
        rw [HE.out] at hO
        have HNL : Hid (m = (stdL r).length) := Lib.hid (by rw [HN.out, HLN.out])
        have hcv := own_bytes hO HNL.out
        clear hcv HO HE HTK HLN HST
        have hd : Below wr.heap.size wr wr.drew := (Below.refl _ _).drew
        replace hO := own_below hO hd
        replace hb := hb.trans (hd.mono hb.size)
        clear hd
        obtain ⟨q, hq⟩ : ∃ q : Nat, q = r * r := ⟨_, rfl⟩
        have hqi : (r : Int) * (r : Int) = (q : Int) := by rw [hq]; push_cast; rfl
        have hq2 : q ≤ 225 := by rw [hq]; exact Nat.mul_le_mul hn hn
        have HQ : Hid (r * r = q) := Lib.hid hq.symm
        have V1 := Lib.hid (V0.out.kept hb)
        have HRP : Hid (∀ W, Calls Tryz.prog 101 #[.int .u8 46, .int .i64 (q : Int)] W fun e w' => e = .returned (.string (mkB (List.replicate (r * r) 46))) ∧ Below W.heap.size W w') := Lib.hid (fun W => by rw [← hq]; exact l02Repeat_any 46 q W (by omega))
        have hw : IntKind.i64.wrap (q : Int) = q := IntWalk.i64_in _ (by omega)
        have hlt0 := V0.out.lt
        clear hq V0
        go_upto_region 11 with fail
        generalize hfr : mkB (List.replicate (r * r) 46) = free at *
        have HF := Lib.hid hfr
        clear hfr
        refine wp_region_held_drew (S := fun W => W.ownsRow w1.heap.size 5 1 (.slice (some ⟨g, 0, none⟩) m cap) m ((stdL r).flatMap U8.enc)) (by kernel_rfl) hO (fun hHeld => ?_)
        generalize wr.drew = wd at *
        refine slotA 0 29 (.int .i64 r) ?_
        simp only [S3]
        refine slotA 1 30 (.slice (some ⟨g, 0, none⟩) m cap) ?_
        simp only [S3]
        refine slotA 2 31 (.string (mkB (stdL r))) ?_ (hy := Or.inl ⟨by rfl, fun w' hS => by have c9 := own_bytes hS HNL.out; go_simp⟩)
        simp only [S3]
        refine slotA 3 32 (.int .i64 r) ?_
        simp only [S3]
        refine slotA 4 33 (.int .i64 r) ?_
        simp only [S3]
        refine slotA 5 34 (.int .i64 q) ?_
        simp only [S3]
        refine wpAnyH_ready (rs := [6]) (by kernel_rfl) (by simp) ?_
        refine AllReadyH.cons (o := _) rfl (fun K hK => ?_) AllReadyH.nil
        go_simp
        refine (HRP.out _).mono ?_
        rintro e wa ⟨rfl, hd⟩
        replace hO := own_below hO hd
        replace V1 := Lib.hid (V1.out.kept hd)
        replace hb := hb.trans (hd.mono hb.size)
        clear hd hHeld HRP
        go_wp2_with fail
        refine hK.out _ _ hO (fun hHeld => ?_)
        clear hK K
        generalize hpr : mkB (stdL r) = prem at *
        have HP := Lib.hid hpr
        clear hpr
        refine slotA 7 36 (.agg #[.int .i64 r, .string prem, .string free]) ?_
        simp only [S3]
        refine wpAnyH_ready (rs := [8]) (by kernel_rfl) (by simp) ?_
        refine AllReadyH.cons (o := _) rfl (fun K hK => ?_) AllReadyH.nil
        obtain ⟨o2, GG⟩ := V1.out.put [.int .i64 r, .string prem, .string free] rfl
        have tR := V1.out.there (n := 3) rfl
        have hO2 := row_store hO GG hlt0
        refine mk_store rfl rfl 25 (.tmp 2) (.tmp 36) rfl w.heap.size 0 #[.int .i64 r, .string prem, .string free] rfl rfl tR (by kernel_rfl) (by simp [Value.oneCell']) ?_
        refine hK.out _ _ hO2 (fun hHeld2 => ?_)
        clear hK K hHeld
        have hb9 := hb0.trans ((hb.mono hb0.size).grown GG (Nat.le_trans hb0.size hb.size) (fun q h => by cases h; exact Nat.le_refl _))
        change wpAnyH _ _ _ _ _ _ _ _ (World.setCells _ w.heap.size 0 [.int .i64 r, .string prem, .string free])
        have e0 := o2.cell (i := 0) (v := .int .i64 r) rfl
        have e1 := o2.cell (i := 1) (v := .string prem) rfl
        have e2 := o2.cell (i := 2) (v := .string free) rfl
        clear o2 GG hO hO2 tR V1 hb hb0
        generalize World.setCells _ w.heap.size 0 [.int .i64 r, .string prem, .string free] = wz at *
        refine slotA 9 3 (.int .i64 0) ?_
        simp only [S3]
        refine wpAnyH_done (by kernel_rfl) ?_ _
        clear hHeld2
        go_wp2
        refine bodyPost_ret (v := .tuple #[.agg #[.int .i64 r, .string prem, .string free], .int .i64 0]) (by simp [results, Tryz.results197, go_sem, e0, e1, e2]) rfl ?_
        exact ⟨by rw [HP.out, HF.out], hb9⟩
end Go.Proofs.YtjdcdhhbgijaoaaGreatDoor
namespace Go.Proofs.YtjdcdhhbgijaoaaGreatDoor
open Go.ChangeShapes Go.WideShapes Go.ChangeAt Go.RowKit Go.Sort

def IZ (w : World) (base : Nat) (a : Option Addr) (c : Nat) (ms : List Int) : Prop := ms = [] ∨ w.ownsRow base 2 1 (.slice a ms.length c) ms.length (ms.flatMap I64.enc)
theorem offA_none (b : Option Addr) : offA none b := fun _ h => by cases h
theorem offA.symm {a b : Option Addr} (h : offA a b) : offA b a := fun g h1 h2 => h g h2 h1
theorem own_lt {w : World} {base : Nat} {e : TypeId} {sz n c : Nat} {L : List Value} {a : Option Addr} (h : w.ownsRow base e sz (.slice a n c) n L) : ∀ g, a.map (·.block) = some g → base ≤ g ∧ g < w.heap.size := by
  intro g hg
  cases a with
  | none => cases hg
  | some x => exact h.lt g hg
structure Wrote (lo : Nat) (S : List (Option Addr)) (w w' : World) : Prop where
  below : Below lo w w'
  own : ∀ {base : Nat} {e : TypeId} {sz n c : Nat} {L : List Value} {a : Option Addr}, (∀ s ∈ S, offA s a) → w.ownsRow base e sz (.slice a n c) n L → w'.ownsRow base e sz (.slice a n c) n L
theorem Wrote.of_below {lo : Nat} {S : List (Option Addr)} {w w' : World} (h : Below w.heap.size w w') (hl : lo ≤ w.heap.size) : Wrote lo S w w' := ⟨h.mono hl, fun _ ho => own_below ho h⟩
theorem Wrote.of_grown {lo : Nat} {w w' : World} {a : Option Addr} {n c : Nat} (h : w.grownBy w' (Value.slice a n c).ownBlock) (hl : lo ≤ w.heap.size) (hg : ∀ g, a.map (·.block) = some g → lo ≤ g) : Wrote lo [a] w w' := by
  have ho : ∀ k, (Value.slice a n c).ownBlock = some k → a.map (·.block) = some k := by
    intro k hk
    cases a with
    | none => cases hk
    | some x => exact hk
  refine ⟨(Below.refl lo w).grown h hl (fun k hk => hg k (ho k hk)), ?_⟩
  intro base e sz n2 c2 L b hb hown
  refine ⟨hown.1, ?_⟩
  rcases hown.2 with hn | ⟨g, cap, cur, hv, hge, hgg, rest⟩
  · exact .inl hn
  · refine .inr ⟨g, cap, cur, hv, hge, ?_, rest⟩
    rw [h.block g (Array.getElem?_eq_some_iff.1 hgg).1 (fun e => ?_)]
    · exact hgg
    · have e2 := ho g e.symm
      have e3 : b = some ⟨g, 0, none⟩ := by
        simp only [Value.slice.injEq] at hv
        exact hv.1
      exact hb a (List.mem_singleton.2 rfl) g e2 (by rw [e3]; rfl)
theorem Wrote.trans {lo : Nat} {S T : List (Option Addr)} {a b c : World} (h : Wrote lo S a b) (k : Wrote lo T b c) : Wrote lo (S ++ T) a c :=
  ⟨h.below.trans k.below, fun hs ho => k.own (fun s hm => hs s (List.mem_append_right _ hm)) (h.own (fun s hm => hs s (List.mem_append_left _ hm)) ho)⟩
theorem Wrote.size {lo : Nat} {S : List (Option Addr)} {w w' : World} (h : Wrote lo S w w') : w.heap.size ≤ w'.heap.size := h.below.size
theorem VarAt.wrote {w w' : World} {g lo : Nat} {t : TypeId} {cs : List Value} {S : List (Option Addr)} (h : VarAt w g t cs) (hw : Wrote lo S w w') (ho : ∀ s ∈ S, offA s (some ⟨g, 0, none⟩)) : VarAt w' g t cs := hw.own ho h

def tlCells (x : Tls) (q : TlA) : List Value := [.string x.letters, .slice q.values.a x.values.length q.values.c, .slice q.counts.a x.counts.length q.counts.c, .int .i64 x.blanks]
theorem wrote_box {w w' : World} {base g : Nat} (hg : w.grownBy w' (some g)) (h1 : base ≤ w.heap.size) (h2 : base ≤ g) : Wrote base [some ⟨g, 0, none⟩] w w' := Wrote.of_grown (a := some ⟨g, 0, none⟩) (n := 1) (c := 1) hg h1 (fun k hk => by cases hk; exact h2)
theorem IZ.block {w : World} {base c : Nat} {a : Option Addr} {ms : List Int} (h : IZ w base a c ms) (hne : 0 < ms.length) : ∃ gb, a = some ⟨gb, 0, none⟩ ∧ base ≤ gb ∧ gb < w.heap.size ∧ w.ownsRow base 2 1 (.slice (some ⟨gb, 0, none⟩) ms.length c) ms.length (ms.flatMap I64.enc) := by
  have ho := h.resolve_left (by intro e; subst e; simp at hne)
  rcases ho.2 with ⟨hv, h0⟩ | ⟨gb, cap, cur, hv, r⟩
  · omega
  · simp only [Value.slice.injEq] at hv
    obtain ⟨rfl, _, rfl⟩ := hv
    exact ⟨gb, rfl, (ho.lt gb rfl).1, (ho.lt gb rfl).2, ho⟩
theorem enc_set1 {α : Type} {enc : α → List Value} {f : α → Value} (he : ∀ x, enc x = [f x]) : ∀ (xs : List α) (k : Nat) (v : α), (xs.flatMap enc).set k (f v) = (xs.set k v).flatMap enc
  | [], _, _ => by simp
  | x :: xs, 0, v => by simp [he]
  | x :: xs, k + 1, v => by
    rw [List.set_cons_succ, List.flatMap_cons, List.flatMap_cons, he x, ← enc_set1 he xs k v]
    rfl
theorem IZ.setAt {w : World} {base c gb : Nat} {ms : List Int} (h : w.ownsRow base 2 1 (.slice (some ⟨gb, 0, none⟩) ms.length c) ms.length (ms.flatMap I64.enc)) (k : Nat) (v : Int) (hlo : base ≤ w.heap.size) : IZ (w.setCell ⟨gb, k, none⟩ (.int .i64 v)) base (some ⟨gb, 0, none⟩) c (ms.set k v) ∧ Wrote base [some ⟨gb, 0, none⟩] w (w.setCell ⟨gb, k, none⟩ (.int .i64 v)) ∧ w.grownBy (w.setCell ⟨gb, k, none⟩ (.int .i64 v)) (some gb) := by
  obtain ⟨h1, h2⟩ := World.ownsRow.stored h k (.int .i64 v)
  refine ⟨.inr ?_, Wrote.of_grown (a := some ⟨gb, 0, none⟩) (n := ms.length) (c := c) h2 hlo (fun g e => ?_), h2⟩
  · rw [List.length_set, ← enc_set1 (enc := I64.enc) (f := fun v => .int .i64 v) (fun _ => rfl) ms k v]
    exact h1
  · cases e
    exact (h.lt gb rfl).1
theorem Tls.counts_rng {x : Tls} (h : x.ok = true) : (0 ≤ x.blanks ∧ x.blanks ≤ 4) ∧ ∀ i, 0 ≤ x.counts.getD i 0 ∧ x.counts.getD i 0 ≤ 20 := by
  unfold Tls.ok at h
  simp only [Bool.and_eq_true, decide_eq_true_eq, within_iff] at h
  obtain ⟨h1, h2, h3, h4, h5, h6⟩ := h
  refine ⟨h4, fun i => ?_⟩
  by_cases hi : i < x.letters.size
  · have := all_range_get h5 hi
    unfold Tls.okAt at this
    simp only [Bool.and_eq_true, within_iff] at this
    omega
  · rw [show x.counts.getD i 0 = 0 from by rw [List.getD_eq_getElem?_getD, List.getElem?_eq_none (by omega)]; rfl]
    omega
end Go.Proofs.YtjdcdhhbgijaoaaGreatDoor
namespace Go.Proofs.YtjdcdhhbgijaoaaGreatDoor
open Go.ChangeShapes Go.WideShapes Go.ChangeAt Go.RowKit Go.Sort

def stepsO (f : Tls → List UInt8 → Option Tls) : Tls → List (List UInt8) → Option Tls
  | t, [] => some t
  | t, w :: ws => match f t w with
    | none => none
    | some t2 => stepsO f t2 ws
theorem stepsO_states {f : Tls → List UInt8 → Option Tls} : ∀ {P : List (List UInt8)} {t0 t : Tls}, stepsO f t0 P = some t → ∃ T : Nat → Tls, T 0 = t0 ∧ (∀ k, k < P.length → f (T k) (P.getD k []) = some (T (k + 1))) ∧ T P.length = t
  | [], t0, t, h => ⟨fun _ => t0, rfl, fun k hk => absurd hk (Nat.not_lt_zero _), by cases h; rfl⟩
  | w :: ws, t0, t, h => by
    unfold stepsO at h
    cases h1 : f t0 w with
    | none => rw [h1] at h; cases h
    | some t2 =>
      rw [h1] at h
      obtain ⟨T, e0, e1, e2⟩ := stepsO_states h
      refine ⟨fun k => match k with | 0 => t0 | k + 1 => T k, rfl, fun k hk => ?_, e2⟩
      cases k with
      | zero => show f t0 w = some (T 0); rw [e0]; exact h1
      | succ k => exact e1 k (by simpa using hk)
/-- a letter's word is added -/
def Tls.add (t : Tls) (c : List UInt8) (v n : Int) : Tls := { t with letters := t.letters ++ mkB c, values := t.values ++ [v], counts := t.counts ++ [n] }
def Tls.low (t : Tls) (w : List UInt8) : Bool := decide (t.letters.size ≤ 26) && (decide (t.values.length ≤ 26) && (decide (t.counts.length ≤ 26) && decide (w.length ≤ 40)))
theorem Tls.low_parts {t : Tls} {w : List UInt8} (h : t.low w = true) : t.letters.size ≤ 26 ∧ t.values.length ≤ 26 ∧ t.counts.length ≤ 26 ∧ w.length ≤ 40 := by
  simpa only [Tls.low, Bool.and_eq_true, decide_eq_true_eq] using h
/-- the reference's step, where all is well -/
def specStep (t : Tls) (w : List UInt8) : Option Tls := if t.low w = true then match partS w with
  | none => none
  | some (p, q) => match specNum q with
    | none => none
    | some n => if p = [63] then (if 0 < n then some { t with blanks := n } else none) else match specNum (p.drop 1) with
      | none => none
      | some v => if t.blanks = 0 then some (t.add (p.take 1) v n) else none
  else none
def partI (w : List UInt8) : List UInt8 × List UInt8 := ((Lib.cut (w.drop 1) [120]).1, (Lib.cut (w.drop 1) [120]).2.1)
/-- the program's step, where all is well -/
def implStep (t : Tls) (w : List UInt8) : Option Tls := if t.low w = true ∧ w ≠ [] ∧ (partI w).1.length ≤ 40 ∧ (partI w).2.length ≤ 40 then
    (if w.headD 0 = 63 then some { t with blanks := (specNum (partI w).2).getD 0 } else if t.letters.size ≤ 25 then some (t.add (w.take 1) ((specNum (partI w).1).getD 0) ((specNum (partI w).2).getD 0)) else none)
  else none
/-- the words of a tile set's text -/
def tilesW (t : Tls) : List ByteArray := (List.range t.counts.length).map (fun i => mkB (tileW t i)) ++ if 0 < t.blanks then [mkB (63 :: 120 :: Lib.itoa t.blanks)] else []
/-- a text and the tile set that it stands for -/
structure Tls.Text (t : Tls) (s : ByteArray) : Prop where
  len : s.size ≤ 1000
  few : (splitL 32 s.data.toList).length ≤ 27
  spec : stepsO specStep tlsNone (splitL 32 s.data.toList) = some t
  impl : stepsO implStep tlsNone (splitL 32 s.data.toList) = some t
  text : tilesT t = s.data.toList
  join : Lib.join ((tilesW t).map (·.data.toList)) [32] = s.data.toList
  ok : t.ok = true
set_option maxRecDepth 100000 in
theorem text_small : smallT.Text smallX := ⟨by decide, by decide, by kernel_rfl, by kernel_rfl, small_text, by kernel_rfl, small_ok⟩
set_option maxRecDepth 100000 in
theorem text_english : englishT.Text englishX := ⟨by decide, by decide, by kernel_rfl, by kernel_rfl, english_text, by kernel_rfl, english_ok⟩

/-! ### A tile set in a box -/
structure TBox (w : World) (g : Nat) (x : Tls) (q : TlA) : Prop where
  var : VarAt w g 44 (tlCells x q)
  vals : w.ownsRow (g + 1) 2 1 (.slice q.values.a x.values.length q.values.c) x.values.length (x.values.flatMap I64.enc)
  cnts : w.ownsRow (g + 1) 2 1 (.slice q.counts.a x.counts.length q.counts.c) x.counts.length (x.counts.flatMap I64.enc)
  off : offA q.values.a q.counts.a
theorem TBox.kept {w w' : World} {g : Nat} {x : Tls} {q : TlA} (h : TBox w g x q) (hb : Below w.heap.size w w') : TBox w' g x q := ⟨h.var.kept hb, own_below h.vals hb, own_below h.cnts hb, h.off⟩
theorem TBox.lt {w : World} {g : Nat} {x : Tls} {q : TlA} (h : TBox w g x q) : g < w.heap.size := h.var.lt
theorem TBox.own {w : World} {g : Nat} {x : Tls} {q : TlA} (h : TBox w g x q) : x.Own q (g + 1) w := ⟨h.vals, h.cnts⟩
theorem TBox.tat {w : World} {g : Nat} {x : Tls} {q : TlA} (h : TBox w g x q) : TAt w g x q := ⟨⟨h.var.cell rfl, h.var.cell rfl, h.var.cell rfl, h.var.cell rfl⟩, h.own.at⟩
theorem TBox.new (w : World) : TBox (w.alloc (.cells #[.string ⟨#[]⟩, .slice none 0 0, .slice none 0 0, .int .i64 0] 44)) w.heap.size tlsNone ⟨⟨none, 0⟩, ⟨none, 0⟩⟩ :=
  ⟨VarAt.new w _ [.string ⟨#[]⟩, .slice none 0 0, .slice none 0 0, .int .i64 0], World.ownsRow_nil _ _ _ _, World.ownsRow_nil _ _ _ _, offA_none _⟩
theorem ownBlock_map {a : Option Addr} {n c k : Nat} (h : (Value.slice a n c).ownBlock = some k) : a.map (·.block) = some k := by
  cases a with
  | none => cases h
  | some x => exact h
theorem TBox.wrote {w w' : World} {g : Nat} {x : Tls} {q : TlA} {a : Option Addr} {n c : Nat} (h : TBox w g x q) (hg : w.grownBy w' (Value.slice a n c).ownBlock) (hlo : ∀ k, a.map (·.block) = some k → g + 1 ≤ k) :
    Wrote g [a] w w' ∧ VarAt w' g 44 (tlCells x q) := by
  have hW : Wrote g [a] w w' := Wrote.of_grown hg (Nat.le_of_lt h.lt) (fun k hk => by have := hlo k hk; omega)
  refine ⟨hW, h.var.wrote hW (fun s hs => ?_)⟩
  rw [List.mem_singleton.1 hs]
  intro k h1 h2
  obtain rfl : g = k := by simpa using h2
  have := hlo _ h1
  omega
/-- what a word's reading may write -/
def W3 (g : Nat) (q : TlA) : List (Option Addr) := [some ⟨g, 0, none⟩, q.values.a, q.counts.a]
theorem Wrote.sub {lo : Nat} {S S' : List (Option Addr)} {w w' : World} (h : Wrote lo S w w') (hs : ∀ s ∈ S, s ∈ S') : Wrote lo S' w w' := ⟨h.below, fun ho => h.own (fun s hm => ho s (hs s hm))⟩
theorem Wrote.same {lo : Nat} {S : List (Option Addr)} {a b c : World} (h : Wrote lo S a b) (k : Wrote lo S b c) : Wrote lo S a c := (h.trans k).sub (fun _ hs => (List.mem_append.1 hs).elim id id)
theorem w3_box {g : Nat} {q : TlA} : ∀ s ∈ ([some ⟨g, 0, none⟩] : List (Option Addr)), s ∈ W3 g q := fun s hs => by rw [List.mem_singleton.1 hs]; exact List.mem_cons_self
theorem w3_vals {g : Nat} {q : TlA} : ∀ s ∈ ([q.values.a] ++ [some ⟨g, 0, none⟩] : List (Option Addr)), s ∈ W3 g q := fun s hs => by
  unfold W3
  simp only [List.cons_append, List.nil_append, List.mem_cons, List.not_mem_nil, or_false] at hs ⊢
  rcases hs with h | h
  · exact .inr (.inl h)
  · exact .inl h
theorem w3_cnts {g : Nat} {q q2 : TlA} (h : q2.counts = q.counts) : ∀ s ∈ ([q2.counts.a] ++ [some ⟨g, 0, none⟩] : List (Option Addr)), s ∈ W3 g q := fun s hs => by
  rw [h] at hs
  unfold W3
  simp only [List.cons_append, List.nil_append, List.mem_cons, List.not_mem_nil, or_false] at hs ⊢
  rcases hs with h | h
  · exact .inr (.inr h)
  · exact .inl h
theorem own_or {a : Option Addr} {n c g7 N H : Nat} (h : (Value.slice a n c).ownBlock = some g7 ∨ g7 = H) (hH : N ≤ H) : ∀ k, (some (⟨g7, 0, none⟩ : Addr)).map (·.block) = some k → a.map (·.block) = some k ∨ N ≤ k := by
  intro k hk
  obtain rfl : g7 = k := by simpa using hk
  rcases h with h | h
  · exact .inl (ownBlock_map h)
  · exact .inr (h ▸ hH)
/-- rows that were there, or new ones -/
structure TNew (w : World) (q q2 : TlA) : Prop where
  vals : ∀ k, q2.values.a.map (·.block) = some k → q.values.a.map (·.block) = some k ∨ w.heap.size ≤ k
  cnts : ∀ k, q2.counts.a.map (·.block) = some k → q.counts.a.map (·.block) = some k ∨ w.heap.size ≤ k
theorem TNew.refl (w : World) (q : TlA) : TNew w q q := ⟨fun _ h => .inl h, fun _ h => .inl h⟩
theorem TBox.addv {w w2 : World} {g g7 cap7 : Nat} {x : Tls} {q : TlA} {v : Int} (h : TBox w g x q)
    (hown : w2.ownsRow (g + 1) 2 1 (.slice (some ⟨g7, 0, none⟩) (x.values.length + 1) cap7) (x.values.length + 1) (x.values.flatMap I64.enc ++ I64.enc v))
    (hgr : w.grownBy w2 (Value.slice q.values.a x.values.length q.values.c).ownBlock) (hwh : (Value.slice q.values.a x.values.length q.values.c).ownBlock = some g7 ∨ g7 = w.heap.size) :
    TBox (w2.setCell ⟨g, 1, none⟩ (.slice (some ⟨g7, 0, none⟩) (x.values.length + 1) cap7)) g { x with values := x.values ++ [v] } ⟨⟨some ⟨g7, 0, none⟩, cap7⟩, q.counts⟩ ∧ Wrote g ([q.values.a] ++ [some ⟨g, 0, none⟩]) w (w2.setCell ⟨g, 1, none⟩ (.slice (some ⟨g7, 0, none⟩) (x.values.length + 1) cap7)) := by
  obtain ⟨hW, hV⟩ := h.wrote hgr (fun k hk => (own_lt h.vals k hk).1)
  obtain ⟨o1, k1⟩ := hV.set 1 (.slice (some ⟨g7, 0, none⟩) (x.values.length + 1) cap7)
  have hl : (x.values ++ [v]).length = x.values.length + 1 := by simp
  refine ⟨⟨o1.as (by unfold tlCells; simp only [hl]; rfl), ?_, row_store (hW.own (fun s hs => by rw [List.mem_singleton.1 hs]; exact h.off) h.cnts) k1 (Nat.lt_succ_self g), ?_⟩, ?_⟩
  · have h2 := row_store (own_as hown (flat_snoc I64.enc x.values v)) k1 (Nat.lt_succ_self g)
    simp only [hl]
    exact h2
  · intro k h1 h2
    obtain rfl : g7 = k := by simpa using h1
    rcases hwh with e | e
    · exact h.off _ (ownBlock_map e) h2
    · have := own_lt h.cnts _ h2
      omega
  · exact hW.trans (wrote_box k1 (Nat.le_of_lt hV.lt) (Nat.le_refl _))
theorem TBox.addc {w w2 : World} {g g7 cap7 : Nat} {x : Tls} {q : TlA} {v : Int} (h : TBox w g x q)
    (hown : w2.ownsRow (g + 1) 2 1 (.slice (some ⟨g7, 0, none⟩) (x.counts.length + 1) cap7) (x.counts.length + 1) (x.counts.flatMap I64.enc ++ I64.enc v))
    (hgr : w.grownBy w2 (Value.slice q.counts.a x.counts.length q.counts.c).ownBlock) (hwh : (Value.slice q.counts.a x.counts.length q.counts.c).ownBlock = some g7 ∨ g7 = w.heap.size) :
    TBox (w2.setCell ⟨g, 2, none⟩ (.slice (some ⟨g7, 0, none⟩) (x.counts.length + 1) cap7)) g { x with counts := x.counts ++ [v] } ⟨q.values, ⟨some ⟨g7, 0, none⟩, cap7⟩⟩ ∧ Wrote g ([q.counts.a] ++ [some ⟨g, 0, none⟩]) w (w2.setCell ⟨g, 2, none⟩ (.slice (some ⟨g7, 0, none⟩) (x.counts.length + 1) cap7)) := by
  obtain ⟨hW, hV⟩ := h.wrote hgr (fun k hk => (own_lt h.cnts k hk).1)
  obtain ⟨o1, k1⟩ := hV.set 2 (.slice (some ⟨g7, 0, none⟩) (x.counts.length + 1) cap7)
  have hl : (x.counts ++ [v]).length = x.counts.length + 1 := by simp
  refine ⟨⟨o1.as (by unfold tlCells; simp only [hl]; rfl), row_store (hW.own (fun s hs => by rw [List.mem_singleton.1 hs]; exact h.off.symm) h.vals) k1 (Nat.lt_succ_self g), ?_, ?_⟩, ?_⟩
  · have h2 := row_store (own_as hown (flat_snoc I64.enc x.counts v)) k1 (Nat.lt_succ_self g)
    simp only [hl]
    exact h2
  · intro k h1 h2
    obtain rfl : g7 = k := by simpa using h2
    rcases hwh with e | e
    · exact h.off _ h1 (ownBlock_map e)
    · have := own_lt h.vals _ h1
      omega
  · exact hW.trans (wrote_box k1 (Nat.le_of_lt hV.lt) (Nat.le_refl _))
theorem TBox.setB {w : World} {g : Nat} {x : Tls} {q : TlA} (h : TBox w g x q) (n : Int) : TBox (w.setCell ⟨g, 3, none⟩ (.int .i64 n)) g { x with blanks := n } q ∧ Wrote g [some ⟨g, 0, none⟩] w (w.setCell ⟨g, 3, none⟩ (.int .i64 n)) := by
  obtain ⟨o1, k1⟩ := h.var.set 3 (.int .i64 n)
  exact ⟨⟨o1, row_store h.vals k1 (Nat.lt_succ_self g), row_store h.cnts k1 (Nat.lt_succ_self g), h.off⟩, wrote_box k1 (Nat.le_of_lt h.lt) (Nat.le_refl _)⟩
theorem TBox.setL {w : World} {g : Nat} {x : Tls} {q : TlA} (h : TBox w g x q) (s : ByteArray) : TBox (w.setCell ⟨g, 0, none⟩ (.string s)) g { x with letters := s } q ∧ Wrote g [some ⟨g, 0, none⟩] w (w.setCell ⟨g, 0, none⟩ (.string s)) := by
  obtain ⟨o1, k1⟩ := h.var.set 0 (.string s)
  exact ⟨⟨o1, row_store h.vals k1 (Nat.lt_succ_self g), row_store h.cnts k1 (Nat.lt_succ_self g), h.off⟩, wrote_box k1 (Nat.le_of_lt h.lt) (Nat.le_refl _)⟩
end Go.Proofs.YtjdcdhhbgijaoaaGreatDoor
