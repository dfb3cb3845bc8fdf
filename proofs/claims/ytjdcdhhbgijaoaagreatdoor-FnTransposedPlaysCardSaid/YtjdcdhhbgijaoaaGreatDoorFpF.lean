/- Contracts: what is on a square, the tiles on a board, two piles together: the program. For · Contracts: the law's own comparisons of lists: words and squares that are alike. For lists -/
import Derived.Test.YtjdcdhhbgijaoaaGreatDoorFpP
import Derived.Test.YtjdcdhhbgijaoaaGreatDoorLgH
import Derived.Test.YtjdcdhhbgijaoaaGreatDoorLgD
import Derived.Test.YtjdcdhhbgijaoaaGreatDoorBrI
import Derived.Test.YtjdcdhhbgijaoaaGreatDoorFpI
import Derived.Laws.StructEq
import Derived.ChangeKeysEq
namespace Go.Proofs.YtjdcdhhbgijaoaaGreatDoor
open Go.ChangeShapes Go.WideShapes Go.ChangeAt Go.RowKit Go.Sort

/-- what is on a square of a board; 0 if there is none -/
def atOut (b : Brd) (r c : Int) : UInt8 := if b.ok then b.cell r c else 0
theorem at_yes {b : Brd} (h : b.ok = true) (r c : Int) : atOut b r c = b.cell r c := by unfold atOut; rw [h]; rfl
/-- the tiles on a board, and a code -/
def onOut (b : Brd) : ByteArray × Int := if b.ok then (if 120 < b.many then (⟨#[]⟩, 5) else (mkB b.pile, 0)) else (⟨#[]⟩, 1)
theorem on_many {b : Brd} (h : b.ok = true) (h2 : 120 < b.many) : onOut b = (⟨#[]⟩, 5) := by unfold onOut; rw [h, if_pos h2]; rfl
theorem on_yes {b : Brd} (h : b.ok = true) (h2 : ¬ 120 < b.many) : onOut b = (mkB b.pile, 0) := by unfold onOut; rw [h, if_neg h2]; rfl
/-- two piles together, and a code -/
def addOut (a c : ByteArray) : ByteArray × Int := if pileOk a.data.toList = false ∨ pileOk c.data.toList = false then (⟨#[]⟩, 1) else if 120 < a.size + c.size then (⟨#[]⟩, 5) else (mkB (srtL (a ++ c).data.toList), 0)
theorem add_many {a c : ByteArray} (h : pileOk a.data.toList = true) (h1 : pileOk c.data.toList = true) (h2 : 120 < a.size + c.size) : addOut a c = (⟨#[]⟩, 5) := by unfold addOut; rw [if_neg (by rw [h, h1]; simp), if_pos h2]
theorem add_yes {a c : ByteArray} (h : pileOk a.data.toList = true) (h1 : pileOk c.data.toList = true) (h2 : ¬ 120 < a.size + c.size) : addOut a c = (mkB (srtL (a ++ c).data.toList), 0) := by unfold addOut; rw [if_neg (by rw [h, h1]; simp), if_neg h2]
theorem cat_list (a c : ByteArray) : (a ++ c).data.toList = a.data.toList ++ c.data.toList := by simp
end Go.Proofs.YtjdcdhhbgijaoaaGreatDoor
namespace Go.Proofs.YtjdcdhhbgijaoaaGreatDoor
open Go.ChangeShapes Go.WideShapes Go.ChangeAt Go.RowKit Go.Sort

theorem f6big_ct (ca : Option Addr) (n cap : Nat) (w : World) : Calls Tryz.prog 9 #[.slice ca n cap] w fun e w' => e = .returned (.bool (decide ((4096 : Int) < n))) ∧ w = w' := by
  go_enter Tryz.func9, Tryz.ntmps9
  go_wp2
  go_ret
  exact ⟨rfl, rfl⟩
def hasB (l : List ByteArray) (s : ByteArray) : Bool := l.any fun x => x.toList == s.toList
theorem eqF_cons {P : Program} {d : Nat} {f : Field} {fs : List Field} {xs ys : Array Value} {a b : Value} {r s : Bool} {w : World} (hn : f.name ≠ "_") (ha : (part f.type xs f.offset).run P w = .ok a w) (hb : (part f.type ys f.offset).run P w = .ok b w)
    (hr : (Op.equalIn d f.type a b).run P w = .ok r w) (hs : (Op.eqFields d xs ys fs).run P w = .ok s w) : (Op.eqFields d xs ys (f :: fs)).run P w = .ok (r && s) w := by
  simp only [Op.eqFields, Sem.run_bind, ha, hb, hr, Result.andThen_ok, hn, ne_eq, not_false_eq_true, if_true, Sem.run_ite]
  cases r
  · simp
  · simp [hs]
theorem eqF_int {d : Nat} {f : Field} {fs : List Field} {xs ys : Array Value} {a b : Int} {s : Bool} {w : World} {n : String} {o : Nat} (hf : (f.name, f.type, f.offset) = (n, 2, o)) (hn : n ≠ "_") (ha : xs[o]? = some (.int .i64 a)) (hb : ys[o]? = some (.int .i64 b))
    (hs : (Op.eqFields (d + 1) xs ys fs).run Tryz.prog w = .ok s w) : (Op.eqFields (d + 1) xs ys (f :: fs)).run Tryz.prog w = .ok ((a == b) && s) w := by
  simp only [Prod.mk.injEq] at hf
  obtain ⟨h1, h2, h3⟩ := hf
  subst h1
  refine eqF_cons hn (a := .int .i64 a) (b := .int .i64 b) ?_ ?_ ?_ hs
  · rw [h2, h3]; exact run_part_plain w (by kernel_rfl) ha
  · rw [h2, h3]; exact run_part_plain w (by kernel_rfl) hb
  · rw [h2]; exact run_equalIn_int w d _ .i64 .i64 a b Tryz.underlying2
theorem eqF_str {d : Nat} {f : Field} {fs : List Field} {xs ys : Array Value} {a b : ByteArray} {s : Bool} {w : World} {n : String} {o : Nat} (hf : (f.name, f.type, f.offset) = (n, 9, o)) (hn : n ≠ "_") (ha : xs[o]? = some (.string a)) (hb : ys[o]? = some (.string b))
    (hs : (Op.eqFields (d + 1) xs ys fs).run Tryz.prog w = .ok s w) : (Op.eqFields (d + 1) xs ys (f :: fs)).run Tryz.prog w = .ok ((a.toList == b.toList) && s) w := by
  simp only [Prod.mk.injEq] at hf
  obtain ⟨h1, h2, h3⟩ := hf
  subst h1
  refine eqF_cons hn (a := .string a) (b := .string b) ?_ ?_ ?_ hs
  · rw [h2, h3]; exact run_part_plain w (by kernel_rfl) ha
  · rw [h2, h3]; exact run_part_plain w (by kernel_rfl) hb
  · rw [h2]; exact run_equalIn_string w d _ a b Tryz.underlying9
theorem uBrd : (Tryz.prog.fieldsOf 25).toList.map (fun f => (f.name, f.type, f.offset)) = [("Size", 2, 0), ("Premium", 9, 1), ("Cells", 9, 2)] := by kernel_rfl
theorem guard_brd : Tryz.prog.eqGuardType Tryz.prog.depth 25 = false := by kernel_rfl
theorem equalIn_brd (d : Nat) (x : Int) (y z : ByteArray) (w : World) : (Op.equalIn (d + 2) 25 (.agg #[.int .i64 x, .string y, .string z]) (.agg #[.int .i64 x, .string y, .string z])).run Tryz.prog w = .ok ((x == x) && ((y.toList == y.toList) && ((z.toList == z.toList) && true))) w := by
  have h1 : Tryz.prog.underlying 25 = some (.struct (Tryz.prog.fieldsOf 25)) := by kernel_rfl
  have h2 : Tryz.prog.stoodInHeld 25 = false := by kernel_rfl
  rw [run_equalIn_agg w (d + 1) 25 _ _ h1 h2]
  have hu := uBrd
  match h : (Tryz.prog.fieldsOf 25).toList with
  | [f0, f1, f2] =>
    rw [h] at hu
    simp only [List.map_cons, List.map_nil, List.cons.injEq, and_true] at hu
    obtain ⟨e0, e1, e2⟩ := hu
    exact eqF_int e0 (by decide) rfl rfl (eqF_str e1 (by decide) rfl rfl (eqF_str e2 (by decide) rfl rfl rfl))
  | [] | [_] | [_, _] | _ :: _ :: _ :: _ :: _ => rw [h] at hu; simp at hu
set_option maxHeartbeats 2000000 in
theorem f6same_any (xs : List ByteArray) (a c : Option Addr) (ca cc : Nat) (w : World) (hm : SliceAt w 1 Tx.enc a xs) (hm2 : SliceAt w 1 Tx.enc c xs) (hl : xs.length ≤ 9223372036854775807) :
    Calls Tryz.prog 20 #[.slice a xs.length ca, .slice c xs.length cc] w fun e w' => e = .returned (.bool true) ∧ Below w.heap.size w w' := by
  have HM := Lib.hid hm
  have HM2 := Lib.hid hm2
  have hb := Below.refl w.heap.size w
  clear hm hm2
  go_enter Tryz.func20, Tryz.ntmps20
  go_wp2
  go_loopw [5] (fun i wr => ∃ k : Nat, k ≤ xs.length ∧ i = .int .i64 k ∧ Below w.heap.size w wr) (fun i _ => xs.length - (intOf i).toNat)
  case atStart => exact ⟨0, Nat.zero_le _, rfl, hb⟩
  case round =>
    clear hb
    obtain ⟨k, hk, rfl, hb⟩ := hrel
    by_cases hlt : k < xs.length
    · obtain ⟨mb, mo, rfl, hc⟩ := HM.out.open hlt
      obtain ⟨nb, no, rfl, hc2⟩ := HM2.out.open hlt
      have c0 := cell_kept (hc k hlt 0 _ rfl) hb
      have d0 := cell_kept (hc2 k hlt 0 _ rfl) hb
      simp only [Nat.add_zero, Nat.mul_one] at c0 d0
      clear hc hc2 HM HM2
      generalize xs[k] = x at *
      have e0 := cell_regrown c0
      have f0 := cell_regrown d0
      have hx : (x.toList != x.toList) = false := bne_self_eq_false _
      have hkI : (k : Int) < (xs.length : Int) := by omega
      go_upto_region 6 with fail
      refine wp_region_quiet_below (by kernel_rfl) (by kernel_rfl) ?_
      repeat (go_big_quiet_step (fail))
      refine wpQuiet_nil ?_
      intro wx hw'
      have hd := below_of_ex hw'
      clear hw'
      replace hb := hb.trans (hd.mono hb.size)
      clear hd
      go_wp2
      go_roundw
      case rel => exact ⟨k + 1, by omega, by go_num, hb⟩
      case measure => simp [intOf]; omega
    · go_wp2
      go_ret
      exact ⟨rfl, hb⟩
end Go.Proofs.YtjdcdhhbgijaoaaGreatDoor
