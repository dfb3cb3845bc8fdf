/- Steps of a region that draws its order (for a seat without games): an operation that may c · Contracts: the reference's standard board and its empty board (for seats without games). F -/
import Derived.Test.YtjdcdhhbgijaoaaGreatDoorVar
import Derived.Deep.DeepMust
import Derived.Deep.MidRow
import Derived.Test.YtjdcdhhbgijaoaaGreatDoorBrD
import Derived.Test.YtjdcdhhbgijaoaaGreatDoorLgA
namespace Go.Proofs.YtjdcdhhbgijaoaaGreatDoor
open Go.ChangeShapes Go.WideShapes Go.ChangeAt Go.RowKit Go.Sort

theorem wpAnyH_slot {P : Program} {md : Region.Mode} {ops : Array Oper} {Q : Exit → Act → World → Prop} {S : World → Prop} {i : Nat} {oi : Oper} (d : Nat) {v : Value} {fuel : Nat} {listed : Array Bool} {a : Act} {w : World} (hi : ops[i]? = some oi) (hd : oi.dst = some d)
    (hs : Region.noSelect ops = true) (hf : Region.free md ops listed i = true) (hr : (Region.ready md ops listed).contains i = true)
    (hQ : ∀ c a w, Q (.panic c) (a.put oi.dst v) w → Q (.panic c) a w) (hy : YieldsIf P ops S oi v a) (hS : S w)
    (h : wpAnyH P md ops Q S fuel (listed.setIfInBounds i true) { a with tmps := a.tmps.setIfInBounds d v } w) : wpAnyH P md ops Q S (fuel + 1) listed a w :=
  wpAnyH_take hi hs hf hr hQ hy hS (by rw [hd]; exact h)
theorem slotA {P : Program} {md : Region.Mode} {ops : Array Oper} {Q : Exit → Act → World → Prop} {S : World → Prop} {oi : Oper} {fuel : Nat} {listed : Array Bool} {a : Act} {w : World} (i d : Nat) (v : Value)
    (h : wpAnyH P md ops Q S fuel (listed.setIfInBounds i true) { a with tmps := a.tmps.setIfInBounds d v } w)
    (hi : ops[i]? = some oi := by exact rfl) (hd : oi.dst = some d := by exact rfl) (hs : Region.noSelect ops = true := by kernel_rfl) (hf : Region.free md ops listed i = true := by kernel_rfl) (hr : (Region.ready md ops listed).contains i = true := by kernel_rfl)
    (hQ : ∀ c a w, Q (.panic c) (a.put oi.dst v) w → Q (.panic c) a w := by exact fun _ _ _ h => h) (hy : YieldsIf P ops S oi v a := by exact Or.inl ⟨by rfl, fun w' _ => by go_simp⟩) (hS : S w := by assumption) : wpAnyH P md ops Q S (fuel + 1) listed a w :=
  wpAnyH_slot d hi hd hs hf hr hQ hy hS h
theorem S3 {α : Type} : (∀ (l : List α) (i : Nat) (x : α), l.toArray.setIfInBounds i x = (l.set i x).toArray) ∧ (∀ (y : α) (l : List α) (x : α), (y :: l).set 0 x = x :: l) ∧ ∀ (y : α) (l : List α) (n : Nat) (x : α), (y :: l).set (n + 1) x = y :: l.set n x :=
  ⟨fun l i x => List.setIfInBounds_toArray l i x, fun _ _ _ => rfl, fun _ _ _ _ => rfl⟩
end Go.Proofs.YtjdcdhhbgijaoaaGreatDoor
namespace Go.Proofs.YtjdcdhhbgijaoaaGreatDoor
open Go.ChangeShapes Go.WideShapes Go.ChangeAt Go.RowKit Go.Sort

def mnI (a b : Int) : Int := if a < b then a else b
def mxI (a b : Int) : Int := if a > b then a else b
theorem mnI_rng {a b l h : Int} (ha : l ≤ a ∧ a ≤ h) (hb : l ≤ b ∧ b ≤ h) : l ≤ mnI a b ∧ mnI a b ≤ h := by unfold mnI; split <;> omega
theorem mxI_rng {a b l h : Int} (ha : l ≤ a ∧ a ≤ h) (hb : l ≤ b ∧ b ≤ h) : l ≤ mxI a b ∧ mxI a b ≤ h := by unfold mxI; split <;> omega
/-- the premium of a square that lies a and b from the edges; h: half of the last row's number -/
def stdA (a b h : Int) : Int := if a = 0 ∧ (b = 0 ∨ b = h) then 116 else if a = b then 100 else if (a + b) % 6 = 4 then 51 else if (a + b) % 4 = 3 then 50 else 46
def stdC (n r c : Int) : Int := stdA (mnI (mnI r (n - 1 - r)) (mnI c (n - 1 - c))) (mxI (mnI r (n - 1 - r)) (mnI c (n - 1 - c))) ((n - 1) / 2)
def stdB (n r c : Int) : UInt8 := UInt8.ofNat (stdC n r c).toNat
theorem stdB_val (n r c : Int) : ((stdB n r c).toNat : Int) = stdC n r c := by
  unfold stdB stdC stdA
  split
  · rfl
  · split
    · rfl
    · split
      · rfl
      · split <;> rfl
def stdL (n : Nat) : List UInt8 := (List.range (n * n)).map (fun k => stdB n ((k / n : Nat) : Int) ((k % n : Nat) : Int))
theorem stdL_len (n : Nat) : (stdL n).length = n * n := by simp [stdL]
theorem stdL_take {n r c m : Nat} (hr : r < n) (hc : c < n) (hm : m = r * n + c) : (stdL n).take (m + 1) = (stdL n).take m ++ [stdB n r c] := by
  have h1 : r * n + c < n * n := row_ltn hr hc
  have hlt : m < (stdL n).length := by rw [stdL_len, hm]; exact h1
  rw [List.take_succ_eq_append_getElem hlt]
  congr 1
  have e1 : m / n = r := by rw [hm, Nat.mul_comm, Nat.mul_add_div (by omega), Nat.div_eq_of_lt hc, Nat.add_zero]
  have e2 : m % n = c := by rw [hm, Nat.mul_comm, Nat.mul_add_mod, Nat.mod_eq_of_lt hc]
  simp only [stdL, List.getElem_map, List.getElem_range, e1, e2]
/-- a standard board, and a code -/
def stdBoard (z : Int) : Brd × Int := if withinB z 5 15 = true then (⟨z, mkB (stdL z.toNat), mkB (List.replicate (z.toNat * z.toNat) 46)⟩, 0) else (⟨0, ⟨#[]⟩, ⟨#[]⟩⟩, 2)
/-- a struct of whatever size is stored, in a region that draws -/
theorem step_store {P : Program} {w : World} {ops : Array Oper} {o : Oper} {act : Act} {K : Act → World → Prop} {Q : Exit → Act → World → Prop} {E : Prop} (hgd : o.guard = none) (ty : TypeId) (x y : Operand) (ho : o.op = .store ty x y)
    (b off : Nat) (cells : Array Value) (hx : act.eval x = .pointer (some ⟨b, off, none⟩)) (hy : act.eval y = .agg cells)
    (ht : w.there b off cells.size) (hi : (P.info? ty).map (·.size) = some cells.size) (h1 : cells.all (·.oneCell') = true)
    (h : K (act.put o.dst undef) (w.setCells b off cells.toList)) : if Region.wanted o (yielded ops act.tmps) = true then Oper.wp P o act w K Q else E := by
  have hw : Region.wanted o (yielded ops act.tmps) = true := by simp [Region.wanted, hgd]
  rw [if_pos hw]
  exact wp_store_mid ty x y ho b off cells hx hy ht hi h1 h
theorem mk_store {P : Program} {w : World} {ops : Array Oper} {o : Oper} {act : Act} {K : Act → World → Prop} {Q : Exit → Act → World → Prop} {E : Prop} (hgd : o.guard = none) (hds : o.dst = none) (ty : TypeId) (x y : Operand) (ho : o.op = .store ty x y)
    (b off : Nat) (cells : Array Value) (hx : act.eval x = .pointer (some ⟨b, off, none⟩)) (hy : act.eval y = .agg cells)
    (ht : w.there b off cells.size) (hi : (P.info? ty).map (·.size) = some cells.size) (h1 : cells.all (·.oneCell') = true)
    (h : K act (w.setCells b off cells.toList)) : if Region.wanted o (yielded ops act.tmps) = true then Oper.wp P o act w K Q else E :=
  step_store hgd ty x y ho b off cells hx hy ht hi h1 (by rw [hds]; exact h)
theorem mkMin_any (a b : Int) (w : World) : Calls Tryz.prog 279 #[.int .i64 a, .int .i64 b] w fun e w' => e = .returned (.int .i64 (mnI a b)) ∧ w = w' := by
  go_enter Tryz.func279, Tryz.ntmps279
  go_wp2
  all_goals
    go_ret
    exact ⟨ret_int (by unfold mnI; split <;> omega), rfl⟩
theorem mkMax_any (a b : Int) (w : World) : Calls Tryz.prog 280 #[.int .i64 a, .int .i64 b] w fun e w' => e = .returned (.int .i64 (mxI a b)) ∧ w = w' := by
  go_enter Tryz.func280, Tryz.ntmps280
  go_wp2
  all_goals
    go_ret
    exact ⟨ret_int (by unfold mxI; split <;> omega), rfl⟩
/-- the square's distances from the edges are small -/
theorem near {n r : Int} (hn : 5 ≤ n ∧ n ≤ 15) (hr : 0 ≤ r ∧ r ≤ n - 1) : 0 ≤ mnI r (n - 1 - r) ∧ mnI r (n - 1 - r) ≤ 14 := by unfold mnI; split <;> omega
set_option maxHeartbeats 4000000 in
theorem l11Standard_any (n r c : Int) (w : World) (hn : 5 ≤ n ∧ n ≤ 15) (hr : 0 ≤ r ∧ r ≤ n - 1) (hc : 0 ≤ c ∧ c ≤ n - 1) :
    Calls Tryz.prog 251 #[.int .i64 n, .int .i64 r, .int .i64 c] w fun e w' => e = .returned (.int .u8 ((stdB n r c).toNat : Int)) ∧ w = w' := by
  have HV : Hid (((stdB n r c).toNat : Int) = stdC n r c) := Lib.hid (stdB_val n r c)
  unfold stdC at HV
  have hx := near hn hr
  have hy := near hn hc
  have ha := mnI_rng hx hy
  have hb := mxI_rng hx hy
  obtain ⟨hn0, hn1⟩ := hn
  obtain ⟨hr0, hr1⟩ := hr
  obtain ⟨hc0, hc1⟩ := hc
  go_enter Tryz.func251, Tryz.ntmps251
  go_wp2_with fail
  refine (mkMin_any _ _ _).mono ?_
  rintro e w' ⟨rfl, rfl⟩
  generalize mnI r (n - 1 - r) = x at *
  go_wp2_with fail
  refine (mkMin_any _ _ _).mono ?_
  rintro e w' ⟨rfl, rfl⟩
  generalize mnI c (n - 1 - c) = y at *
  go_wp2_with fail
  refine (mkMin_any _ _ _).mono ?_
  rintro e w' ⟨rfl, rfl⟩
  go_wp2_with fail
  refine (mkMax_any _ _ _).mono ?_
  rintro e w' ⟨rfl, rfl⟩
  generalize mnI x y = a at *
  generalize mxI x y = b at *
  obtain ⟨ha0, ha1⟩ := ha
  obtain ⟨hb0, hb1⟩ := hb
  clear hx hy
  by_cases h1 : a = 0
  · by_cases h2 : b = 0
    · go_wp2
      all_goals
        go_ret
        exact ⟨ret_int (by rw [HV.out]; unfold stdA; (try simp only [beq_iff_eq, beq_eq_false_iff_ne, ne_eq] at *); (repeat' split) <;> omega), rfl⟩
    · by_cases h3 : b = (n - 1) / 2
      · go_wp2
        all_goals
          go_ret
          exact ⟨ret_int (by rw [HV.out]; unfold stdA; (try simp only [beq_iff_eq, beq_eq_false_iff_ne, ne_eq] at *); (repeat' split) <;> omega), rfl⟩
      · go_wp2
        all_goals
          go_ret
          exact ⟨ret_int (by rw [HV.out]; unfold stdA; (try simp only [beq_iff_eq, beq_eq_false_iff_ne, ne_eq] at *); (repeat' split) <;> omega), rfl⟩
  · go_wp2
    all_goals
      go_ret
      exact ⟨ret_int (by rw [HV.out]; unfold stdA; (try simp only [beq_iff_eq, beq_eq_false_iff_ne, ne_eq] at *); (repeat' split) <;> omega), rfl⟩
set_option maxRecDepth 100000 in
set_option maxHeartbeats 4000000 in
theorem l02Repeat_any (c : UInt8) (n : Nat) (w : World) (hn : n ≤ 100000) :
    Calls Tryz.prog 101 #[.int .u8 (c.toNat : Int), .int .i64 (n : Int)] w (StrPost w (List.replicate n c)) := by
  obtain ⟨i0, hi0, hi1, hi2, hi3⟩ := info_parts infoByte
  have hd0 : Below w.heap.size w (w.alloc (.cells #[] 5)) := (Below.refl _ _).alloc (Nat.le_refl _) _
  have HO : Hid ((w.alloc (.cells #[] 5)).ownsRow w.heap.size 5 1 (.slice (some ⟨w.heap.size, 0, none⟩) 0 0) 0 ((List.replicate 0 c).flatMap U8.enc)) := Lib.hid (
    World.ownsRow_made (base := w.heap.size) (e := 5) (size := 1) w #[] 0 (Nat.le_refl _) (by unfold maxLen; omega) rfl)
  have hb := hd0
  have HSN : Hid (∀ k, (List.replicate (k + 1) c) = List.replicate k c ++ [c]) := Lib.hid (fun k => rep_snoc k c)
  have HLN : Hid (∀ k, (List.replicate k c).length = k) := Lib.hid (fun k => List.length_replicate)
  clear hd0
  obtain ⟨rp, hrp⟩ : ∃ rp : Nat → List UInt8, ∀ k, rp k = List.replicate k c := ⟨_, fun _ => rfl⟩
  have HRP := Lib.hid hrp
  simp only [← hrp] at HO HSN HLN ⊢
  clear hrp
  go_enter Tryz.func101, Tryz.ntmps101
  go_wp2_with fail
  go_loopw [1, 5] (fun nv ov wr => ∃ (k g1 cap : Nat), k ≤ n ∧ nv = .int .i64 ((n - k : Nat) : Int) ∧ ov = .slice (some ⟨g1, 0, none⟩) k cap ∧ Hid (wr.ownsRow w.heap.size 5 1 (.slice (some ⟨g1, 0, none⟩) k cap) k ((rp k).flatMap U8.enc)) ∧ Below w.heap.size w wr) (fun nv _ _ => (intOf nv).toNat)
  case atStart => exact ⟨0, _, 0, Nat.zero_le _, rfl, rfl, HO, hb⟩
  case round =>
    clear HO hb
    obtain ⟨k, g1, cap, hk, rfl, rfl, HO, hb⟩ := hrel
    by_cases h0 : 0 < n - k
    · have hnk : ((n - (k + 1) : Nat) : Int) = ((n - k : Nat) : Int) - 1 := by omega
      have HNK := Lib.hid hnk
      have hp0 : 0 < ((n - k : Nat) : Int) := by omega
      have hk1 : k + 1 ≤ n := by omega
      have hdn : n - k ≤ 100000 := by omega
      clear hnk
      generalize n - k = d at *
      have wr1 : IntKind.i64.wrap ((d : Int) - 1) = (d : Int) - 1 := IntWalk.i64_in _ (by omega)
      have hx : Below wr.heap.size wr (wr.alloc (.cells #[.int .u8 ((c.toNat : Int))] 5)) := (Below.refl _ _).alloc (Nat.le_refl _) _
      have KN := Lib.hid (new_byte wr c 5)
      have HOX := Lib.hid (own_below HO.out hx)
      have hz2 := hb.size
      have hbx := hb.trans (hx.mono hb.size)
      have HS := Lib.hid (HSN.out k)
      clear hx HO hb
      go_wp2_with (at_builtin; go_must (refine wpList_append_lies _ rfl (.tmp 11) (.tmp 13) 22 rfl w.heap.size 5 i0 _ 1 1 Tryz.underlying22 hi0 hi1 hi2 hi3 rfl (by decide) _ k ((rp k).flatMap U8.enc) (by rfl) HOX.out ⟨wr.heap.size, 0, none⟩ 1 1 (U8.enc c) (by rfl) rfl KN.out (u8_one1 c) (by decide) ?c1 ?c2 ?c3 _ rfl ?_))
      case c1 => unfold maxLen; omega
      case c2 => omega
      case c3 => (first | omega | (simp only [World.size_alloc]; omega))
      intro g7 cap7 w7 hown hgr hwh hlt7
      have hb7 := hbx.grown hgr hbx.size (fun q e => by have := (HOX.out.lt q e).1; omega)
      have HO7 : Hid (w7.ownsRow w.heap.size 5 1 (.slice (some ⟨g7, 0, none⟩) (k + 1) cap7) (k + 1) ((rp (k + 1)).flatMap U8.enc)) := Lib.hid (by rw [HS.out, snoc_flat U8.enc]; exact hown)
      clear hown hgr hwh KN hlt7 HOX hbx hz2 HS
      go_wp2
      go_roundw
      case rel => exact ⟨k + 1, g7, cap7, hk1, by rw [HNK.out], rfl, HO7, hb7⟩
      case measure => simp [intOf]; omega
    · obtain rfl : k = n := by omega
      rw [Nat.sub_self]
      have hcv := own_bytes HO.out (HLN.out _).symm
      clear HO HSN
      go_wp2
      go_ret
      exact ⟨rfl, hb⟩
/-! ### All tiles -/
set_option maxRecDepth 100000 in
set_option maxHeartbeats 4000000 in
theorem specStandardBoard_any (z : Int) (w : World) :
    Calls Tryz.prog 197 #[.int .i64 z] w fun e w' => e = .returned (.tuple #[.agg #[.int .i64 (stdBoard z).1.size, .string (stdBoard z).1.premium, .string (stdBoard z).1.cells], .int .i64 (stdBoard z).2]) ∧ Below w.heap.size w w' := by
  obtain ⟨i0, hi0, hi1, hi2, hi3⟩ := info_parts infoByte
  have hb0 : Below w.heap.size w (w.alloc (.cells #[.int .i64 0, .string ⟨#[]⟩, .string ⟨#[]⟩] 25)) := (Below.refl _ _).alloc (Nat.le_refl _) _
  have V0 := Lib.hid (VarAt.new w 25 [.int .i64 0, .string ⟨#[]⟩, .string ⟨#[]⟩])
  have HSZ : Hid (∀ W, Calls Tryz.prog 100 #[.int .i64 z] W fun e w' => e = .returned (.bool (withinB z 5 15)) ∧ W = w') := Lib.hid (fun W => l11Size_any z W)
  cases hz : withinB z 5 15 with
  | false =>
    have HR : Hid (stdBoard z = (⟨0, ⟨#[]⟩, ⟨#[]⟩⟩, 2)) := Lib.hid (by unfold stdBoard; rw [hz]; rfl)
    rw [HR.out]
    rw [hz] at HSZ
    clear hz HR
    go_enter Tryz.func197, Tryz.ntmps197
    go_upto_region 1 with fail
    generalize w.alloc (.cells #[.int .i64 0, .string ⟨#[]⟩, .string ⟨#[]⟩] 25) = w1 at *
    go_wp2_with fail
    refine (HSZ.out _).mono ?_
    rintro e w2 ⟨rfl, rfl⟩
    clear HSZ
    have c0 := V0.out.cell (i := 0) rfl
    have c1 := V0.out.cell (i := 1) rfl
    have c2 := V0.out.cell (i := 2) rfl
    have f0 := V0.out.free 0
    have f1 := V0.out.free 1
    have f2 := V0.out.free 2
    obtain ⟨o0, k0⟩ := V0.out.set 0 (.int .i64 0)
    obtain ⟨o1, k1⟩ := o0.set 1 (.string ⟨#[]⟩)
    obtain ⟨o2, k2⟩ := o1.set 2 (.string ⟨#[]⟩)
    have GG := grownBy_trans (grownBy_trans k0 k1) k2
    have hb9 := hb0.grown GG hb0.size (fun q h => by cases h; exact Nat.le_refl _)
    have e0 := o2.cell (i := 0) (v := .int .i64 0) rfl
    have e1 := o2.cell (i := 1) (v := .string ⟨#[]⟩) rfl
    have e2 := o2.cell (i := 2) (v := .string ⟨#[]⟩) rfl
    clear o0 o1 o2 k0 k1 k2 GG
    go_wp2
    refine bodyPost_ret (v := .tuple #[.agg #[.int .i64 0, .string ⟨#[]⟩, .string ⟨#[]⟩], .int .i64 2]) (by simp [results, Tryz.results197, go_sem, e0, e1, e2]) rfl ?_
    exact ⟨rfl, hb9⟩
  | true =>
    have h5 : 5 ≤ z ∧ z ≤ 15 := by simpa only [withinB, Bool.and_eq_true, decide_eq_true_eq] using hz
    obtain ⟨n, rfl⟩ : ∃ n : Nat, z = (n : Int) := ⟨z.toNat, by omega⟩
    have hn5 : 5 ≤ n := by omega
    have hn : n ≤ 15 := by omega
    have HR : Hid (stdBoard (n : Int) = (⟨n, mkB (stdL n), mkB (List.replicate (n * n) 46)⟩, 0)) := Lib.hid (by unfold stdBoard; rw [hz]; rfl)
    rw [HR.out]
    rw [hz] at HSZ
    clear hz HR
    have HLN := Lib.hid (stdL_len n)
    have HTK := Lib.hid (fun (r c m : Nat) (h1 : r < n) (h2 : c < n) (h3 : m = r * n + c) => stdL_take (n := n) h1 h2 h3)
    have HST : Hid (∀ r c : Nat, r < n → c < n → ∀ W, Calls Tryz.prog 251 #[.int .i64 n, .int .i64 r, .int .i64 c] W fun e w' => e = .returned (.int .u8 ((stdB n r c).toNat : Int)) ∧ W = w') := Lib.hid (fun r c h1 h2 W => l11Standard_any n r c W (by omega) (by omega) (by omega))
    go_enter Tryz.func197, Tryz.ntmps197
    go_upto_region 1 with fail
    generalize w.alloc (.cells #[.int .i64 0, .string ⟨#[]⟩, .string ⟨#[]⟩] 25) = w1 at *
    go_wp2_with fail
    refine (HSZ.out _).mono ?_
    rintro e w2 ⟨rfl, rfl⟩
    clear HSZ
    have hb : Below w1.heap.size w1 (w1.alloc (.cells #[] 5)) := (Below.refl _ _).alloc (Nat.le_refl _) _
    have HO : Hid ((w1.alloc (.cells #[] 5)).ownsRow w1.heap.size 5 1 (.slice (some ⟨w1.heap.size, 0, none⟩) 0 0) 0 []) := Lib.hid (World.ownsRow_made (base := w1.heap.size) (e := 5) (size := 1) w1 #[] 0 (by simp) (by unfold maxLen; omega) rfl)
    go_upto_region 4 with fail
    generalize w1.alloc (.cells #[] 5) = w3 at *
    go_wp2_with fail
    go_loopw [4, 5] (fun ov iv wr => ∃ (r m g cap : Nat), r ≤ n ∧ iv = .int .i64 r ∧ ov = .slice (some ⟨g, 0, none⟩) m cap ∧ Hid (m = r * n) ∧ m ≤ 225 ∧ Hid (wr.ownsRow w1.heap.size 5 1 (.slice (some ⟨g, 0, none⟩) m cap) m (((stdL n).take m).flatMap U8.enc)) ∧ Below w1.heap.size w1 wr) (fun _ iv _ => n - (intOf iv).toNat)
    case atStart => exact ⟨0, 0, _, 0, Nat.zero_le _, rfl, rfl, Lib.hid (by simp), by omega, HO, hb⟩
    case round =>
      clear HO hb
      obtain ⟨r, m, g, cap, hr, rfl, rfl, HN, hm, HO, hb⟩ := hrel
      by_cases hlt : r < n
      · go_wp2_with fail
        obtain ⟨wo, rfl⟩ : ∃ wo : World, wo = wr := ⟨_, rfl⟩
        go_loopw [4, 6] (fun ov iv wr => ∃ (c m g cap : Nat), c ≤ n ∧ iv = .int .i64 c ∧ ov = .slice (some ⟨g, 0, none⟩) m cap ∧ Hid (m = r * n + c) ∧ m ≤ 225 ∧ Hid (wr.ownsRow w1.heap.size 5 1 (.slice (some ⟨g, 0, none⟩) m cap) m (((stdL n).take m).flatMap U8.enc)) ∧ Below w1.heap.size w1 wr) (fun _ iv _ => n - (intOf iv).toNat)
        case atStart => exact ⟨0, m, g, cap, Nat.zero_le _, rfl, rfl, Lib.hid (by rw [HN.out]; rfl), hm, HO, hb⟩
        case round =>
          clear HO hb hm HN
          obtain ⟨c, m, g2, cap2, hc, rfl, rfl, HM, hm, HO, hb⟩ := hrel
          by_cases hc2 : c < n
          · have HT := Lib.hid (HTK.out r c m hlt hc2 HM.out)
            have hm2 : m < 225 := by
              have h1 := HM.out
              have h2 := row_ltn hlt hc2
              have h3 := sq_mono hn
              omega
            have HM2 : Hid (m + 1 = r * n + (c + 1)) := Lib.hid (by have := HM.out; omega)
            have HS1 := Lib.hid (HST.out r c hlt hc2)
            clear HM
            generalize stdB (n : Int) (r : Int) (c : Int) = ch at *
            go_wp2_with fail
            refine (HS1.out _).mono ?_
            rintro e w4 ⟨rfl, rfl⟩
            clear HS1
            have hx : Below wr.heap.size wr (wr.alloc (.cells #[.int .u8 (ch.toNat : Int)] 5)) := (Below.refl _ _).alloc (Nat.le_refl _) _
            have KN := Lib.hid (new_byte wr ch 5)
            replace HO := Lib.hid (own_below HO.out hx)
            have hz2 := hb.size
            replace hb := hb.trans (hx.mono hb.size)
            clear hx
            go_wp2_with (at_builtin; go_must (refine wpList_append_own _ rfl (.tmp 22) (.tmp 27) 22 rfl w1.heap.size 5 i0 _ 1 1 Tryz.underlying22 hi0 hi1 hi2 hi3 rfl (by decide) _ m (((stdL n).take m).flatMap U8.enc) (by rfl) HO.out ⟨wr.heap.size, 0, none⟩ 1 1 (U8.enc ch) (by rfl) rfl KN.out (u8_one1 ch) ?c1 ?c2 ?c3 ?_))
            case c1 => unfold maxLen; omega
            case c2 => omega
            case c3 => (first | omega | (simp only [World.size_alloc]; omega))
            intro v' w7 hown hgr hnil
            obtain ⟨g7, cap7, rfl, _⟩ := own_some hown (fun e => by have h := hnil; rw [e] at h; simp at h)
            have hb7 := hb.grown hgr hb.size (fun q e => by have := (HO.out.lt q e).1; omega)
            have HO7 : Hid (w7.ownsRow w1.heap.size 5 1 (.slice (some ⟨g7, 0, none⟩) (m + 1) cap7) (m + 1) (((stdL n).take (m + 1)).flatMap U8.enc)) := Lib.hid (by
              rw [HT.out, snoc_flat U8.enc]; exact hown)
            clear hown hgr hnil KN HO hb HT
            go_wp2
            go_roundw
            case rel => exact ⟨c + 1, m + 1, g7, cap7, by omega, by go_num, by go_num, HM2, by omega, HO7, hb7⟩
            case measure => simp [intOf]; omega
          · obtain rfl : c = n := by omega
            have HM2 : Hid (m = (r + 1) * c) := Lib.hid (by rw [Nat.succ_mul]; exact HM.out)
            clear HM
            go_wp2
            go_roundw
            case rel => exact ⟨r + 1, m, g2, cap2, by omega, by go_num, rfl, HM2, hm, HO, hb⟩
            case measure => simp [intOf]; omega
      · obtain rfl : r = n := by omega
        have HE : Hid ((stdL r).take m = stdL r) := Lib.hid (List.take_of_length_le (by rw [HLN.out, HN.out]; exact Nat.le_refl _))
        have hO := HO.out
        rw [HE.out] at hO
        have HNL : Hid (m = (stdL r).length) := Lib.hid (by rw [HN.out, HLN.out])
        have hcv := own_bytes hO HNL.out
        clear hcv HO HE HTK HLN HST
        have hd : Below wr.heap.size wr wr.drew := (Below.refl _ _).drew
        replace hO := own_below hO hd
        replace hb := hb.trans (hd.mono hb.size)
        clear hd
        obtain ⟨q, hq⟩ : ∃ q : Nat, q = r * r := ⟨_, rfl⟩
        have hqi : (r : Int) * (r : Int) = (q : Int) := by rw [hq]; push_cast; rfl
        have hq2 : q ≤ 225 := by rw [hq]; exact Nat.mul_le_mul hn hn
        have HQ : Hid (r * r = q) := Lib.hid hq.symm
        have V1 := Lib.hid (V0.out.kept hb)
        have HRP : Hid (∀ W, Calls Tryz.prog 101 #[.int .u8 46, .int .i64 (q : Int)] W fun e w' => e = .returned (.string (mkB (List.replicate (r * r) 46))) ∧ Below W.heap.size W w') := Lib.hid (fun W => by rw [← hq]; exact l02Repeat_any 46 q W (by omega))
        have hw : IntKind.i64.wrap (q : Int) = q := IntWalk.i64_in _ (by omega)
        have hlt0 := V0.out.lt
        clear hq V0
        go_upto_region 11 with fail
        generalize hfr : mkB (List.replicate (r * r) 46) = free at *
        have HF := Lib.hid hfr
        clear hfr
        refine wp_region_held_drew (S := fun W => W.ownsRow w1.heap.size 5 1 (.slice (some ⟨g, 0, none⟩) m cap) m ((stdL r).flatMap U8.enc)) (by kernel_rfl) hO (fun hHeld => ?_)
        generalize wr.drew = wd at *
        refine slotA 0 29 (.int .i64 r) ?_
        simp only [S3]
        refine slotA 1 30 (.slice (some ⟨g, 0, none⟩) m cap) ?_
        simp only [S3]
        refine slotA 2 31 (.string (mkB (stdL r))) ?_ (hy := Or.inl ⟨by rfl, fun w' hS => by have c9 := own_bytes hS HNL.out; go_simp⟩)
        simp only [S3]
        refine slotA 3 32 (.int .i64 r) ?_
        simp only [S3]
        refine slotA 4 33 (.int .i64 r) ?_
        simp only [S3]
        refine slotA 5 34 (.int .i64 q) ?_
        simp only [S3]
        refine wpAnyH_ready (rs := [6]) (by kernel_rfl) (by simp) ?_
        refine AllReadyH.cons (o := _) rfl (fun K hK => ?_) AllReadyH.nil
        go_simp
        refine (HRP.out _).mono ?_
        rintro e wa ⟨rfl, hd⟩
        replace hO := own_below hO hd
        replace V1 := Lib.hid (V1.out.kept hd)
        replace hb := hb.trans (hd.mono hb.size)
        clear hd hHeld HRP
        go_wp2_with fail
        refine hK.out _ _ hO (fun hHeld => ?_)
        clear hK K
        generalize hpr : mkB (stdL r) = prem at *
        have HP := Lib.hid hpr
        clear hpr
        refine slotA 7 36 (.agg #[.int .i64 r, .string prem, .string free]) ?_
        simp only [S3]
        refine wpAnyH_ready (rs := [8]) (by kernel_rfl) (by simp) ?_
        refine AllReadyH.cons (o := _) rfl (fun K hK => ?_) AllReadyH.nil
        obtain ⟨o2, GG⟩ := V1.out.put [.int .i64 r, .string prem, .string free] rfl
        have tR := V1.out.there (n := 3) rfl
        have hO2 := row_store hO GG hlt0
        refine mk_store rfl rfl 25 (.tmp 2) (.tmp 36) rfl w.heap.size 0 #[.int .i64 r, .string prem, .string free] rfl rfl tR (by kernel_rfl) (by simp [Value.oneCell']) ?_
        refine hK.out _ _ hO2 (fun hHeld2 => ?_)
        clear hK K hHeld
        have hb9 := hb0.trans ((hb.mono hb0.size).grown GG (Nat.le_trans hb0.size hb.size) (fun q h => by cases h; exact Nat.le_refl _))
        change wpAnyH _ _ _ _ _ _ _ _ (World.setCells _ w.heap.size 0 [.int .i64 r, .string prem, .string free])
        have e0 := o2.cell (i := 0) (v := .int .i64 r) rfl
        have e1 := o2.cell (i := 1) (v := .string prem) rfl
        have e2 := o2.cell (i := 2) (v := .string free) rfl
        clear o2 GG hO hO2 tR V1 hb hb0
        generalize World.setCells _ w.heap.size 0 [.int .i64 r, .string prem, .string free] = wz at *
        refine slotA 9 3 (.int .i64 0) ?_
        simp only [S3]
        refine wpAnyH_done (by kernel_rfl) ?_ _
        clear hHeld2
        go_wp2
        refine bodyPost_ret (v := .tuple #[.agg #[.int .i64 r, .string prem, .string free], .int .i64 0]) (by simp [results, Tryz.results197, go_sem, e0, e1, e2]) rfl ?_
        exact ⟨by rw [HP.out, HF.out], hb9⟩
end Go.Proofs.YtjdcdhhbgijaoaaGreatDoor
