/- Contracts: what is on a square, the tiles on a board, two piles together: the program. For · Contracts: the law's own comparisons of lists: words and squares that are alike. For lists · Contract: a play's tiles: the reference. For whatever board and play. -/
import Derived.Test.YtjdcdhhbgijaoaaGreatDoorFpP
import Derived.Test.YtjdcdhhbgijaoaaGreatDoorLgH
import Derived.Test.YtjdcdhhbgijaoaaGreatDoorLgD
import Derived.Test.YtjdcdhhbgijaoaaGreatDoorBrI
import Derived.Test.YtjdcdhhbgijaoaaGreatDoorFpI
import Derived.Laws.StructEq
import Derived.ChangeKeysEq
namespace Go.Proofs.YtjdcdhhbgijaoaaGreatDoor
open Go.ChangeShapes Go.WideShapes Go.ChangeAt Go.RowKit Go.Sort

/-- what is on a square of a board; 0 if there is none -/
def atOut (b : Brd) (r c : Int) : UInt8 := if b.ok then b.cell r c else 0
theorem at_no {b : Brd} (h : b.ok = false) (r c : Int) : atOut b r c = 0 := by unfold atOut; rw [h]; rfl
theorem at_yes {b : Brd} (h : b.ok = true) (r c : Int) : atOut b r c = b.cell r c := by unfold atOut; rw [h]; rfl
/-- the tiles on a board, and a code -/
def onOut (b : Brd) : ByteArray × Int := if b.ok then (if 120 < b.many then (⟨#[]⟩, 5) else (mkB b.pile, 0)) else (⟨#[]⟩, 1)
theorem on_no {b : Brd} (h : b.ok = false) : onOut b = (⟨#[]⟩, 1) := by unfold onOut; rw [h]; rfl
theorem on_many {b : Brd} (h : b.ok = true) (h2 : 120 < b.many) : onOut b = (⟨#[]⟩, 5) := by unfold onOut; rw [h, if_pos h2]; rfl
theorem on_yes {b : Brd} (h : b.ok = true) (h2 : ¬ 120 < b.many) : onOut b = (mkB b.pile, 0) := by unfold onOut; rw [h, if_neg h2]; rfl
/-- two piles together, and a code -/
def addOut (a c : ByteArray) : ByteArray × Int := if pileOk a.data.toList = false ∨ pileOk c.data.toList = false then (⟨#[]⟩, 1) else if 120 < a.size + c.size then (⟨#[]⟩, 5) else (mkB (srtL (a ++ c).data.toList), 0)
theorem add_no {a c : ByteArray} (h : pileOk a.data.toList = false ∨ pileOk c.data.toList = false) : addOut a c = (⟨#[]⟩, 1) := by unfold addOut; rw [if_pos h]
theorem add_many {a c : ByteArray} (h : pileOk a.data.toList = true) (h1 : pileOk c.data.toList = true) (h2 : 120 < a.size + c.size) : addOut a c = (⟨#[]⟩, 5) := by unfold addOut; rw [if_neg (by rw [h, h1]; simp), if_pos h2]
theorem add_yes {a c : ByteArray} (h : pileOk a.data.toList = true) (h1 : pileOk c.data.toList = true) (h2 : ¬ 120 < a.size + c.size) : addOut a c = (mkB (srtL (a ++ c).data.toList), 0) := by unfold addOut; rw [if_neg (by rw [h, h1]; simp), if_neg h2]
theorem cat_list (a c : ByteArray) : (a ++ c).data.toList = a.data.toList ++ c.data.toList := by simp
theorem pile_tileB {l : List UInt8} (h : pileOk l = true) : l.all tileB = true := by
  obtain ⟨h1, _, _⟩ := pileOk_iff.1 h
  refine List.all_eq_true.2 fun c hc => ?_
  obtain ⟨j, hj, rfl⟩ := List.getElem_of_mem hc
  have := h1 j hj
  rwa [u8_at hj] at this
theorem pile_120 {l : List UInt8} (h : pileOk l = true) : l.length ≤ 120 := (pileOk_iff.1 h).2.2
set_option maxRecDepth 100000 in
set_option maxHeartbeats 1000000 in
theorem CellAt_any (b : Brd) (r c : Int) (w : World) (hf : b.fit) :
    Calls Tryz.prog 51 #[.agg #[.int .i64 b.size, .string b.premium, .string b.cells], .int .i64 r, .int .i64 c] w fun e w' => e = .returned (.int .u8 ((atOut b r c).toNat : Int)) ∧ Below w.heap.size w w' := by
  have hb : Below w.heap.size w (w.alloc (.cells #[.int .i64 b.size, .string b.premium, .string b.cells] 25)) := (Below.refl _ _).alloc (Nat.le_refl _) _
  have VB := Lib.hid (VarAt.new w 25 [.int .i64 b.size, .string b.premium, .string b.cells])
  cases hk : b.ok with
  | false =>
    rw [at_no hk]
    go_enter Tryz.func51, Tryz.ntmps51
    go_upto_region 1 with fail
    generalize w.alloc (.cells #[.int .i64 b.size, .string b.premium, .string b.cells] 25) = w1 at *
    have b0 := VB.out.cell (i := 0) rfl
    have b1 := VB.out.cell (i := 1) rfl
    have b2 := VB.out.cell (i := 2) rfl
    go_wp2_with fail
    refine (ValidBoard_any b _ hf).mono ?_
    rintro e w3 ⟨rfl, hd⟩
    rw [hk]
    clear b0 b1 b2
    replace hb := hb.trans (hd.mono hb.size)
    replace VB := Lib.hid (VB.out.kept hd)
    clear hd
    clear hk
    go_wp2
    go_ret
    exact ⟨rfl, hb⟩
  | true =>
    obtain ⟨n, hg⟩ := Brd.good hk
    rw [at_yes hk]
    have HCE := Lib.hid (fun W => cell_any b n r c W hg)
    clear hg
    go_enter Tryz.func51, Tryz.ntmps51
    go_upto_region 1 with fail
    generalize w.alloc (.cells #[.int .i64 b.size, .string b.premium, .string b.cells] 25) = w1 at *
    have b0 := VB.out.cell (i := 0) rfl
    have b1 := VB.out.cell (i := 1) rfl
    have b2 := VB.out.cell (i := 2) rfl
    go_wp2_with fail
    refine (ValidBoard_any b _ hf).mono ?_
    rintro e w3 ⟨rfl, hd⟩
    rw [hk]
    clear b0 b1 b2
    replace hb := hb.trans (hd.mono hb.size)
    replace VB := Lib.hid (VB.out.kept hd)
    clear hd
    clear hk
    have b0 := VB.out.cell (i := 0) rfl
    have b1 := VB.out.cell (i := 1) rfl
    have b2 := VB.out.cell (i := 2) rfl
    go_wp2_with fail
    refine (HCE.out _).mono ?_
    rintro e w4 ⟨rfl, hd⟩
    clear b0 b1 b2
    replace hb := hb.trans (hd.mono hb.size)
    clear hd
    go_wp2
    go_ret
    exact ⟨rfl, hb⟩
set_option maxRecDepth 100000 in
set_option maxHeartbeats 1000000 in
theorem TilesOn_any (b : Brd) (w : World) (hf : b.fit) (hE : EnvL w) :
    Calls Tryz.prog 49 #[.agg #[.int .i64 b.size, .string b.premium, .string b.cells]] w fun e w' => e = .returned (.tuple #[.string (onOut b).1, .int .i64 (onOut b).2]) ∧ Below w.heap.size w w' := by
  have hb : Below w.heap.size w (w.alloc (.cells #[.int .i64 b.size, .string b.premium, .string b.cells] 25)) := (Below.refl _ _).alloc (Nat.le_refl _) _
  have VB := Lib.hid (VarAt.new w 25 [.int .i64 b.size, .string b.premium, .string b.cells])
  have HE := Lib.hid (hE.kept hb)
  clear hE
  cases hk : b.ok with
  | false =>
    rw [on_no hk]
    go_enter Tryz.func49, Tryz.ntmps49
    go_upto_region 1 with fail
    generalize w.alloc (.cells #[.int .i64 b.size, .string b.premium, .string b.cells] 25) = w1 at *
    have b0 := VB.out.cell (i := 0) rfl
    have b1 := VB.out.cell (i := 1) rfl
    have b2 := VB.out.cell (i := 2) rfl
    go_wp2_with fail
    refine (ValidBoard_any b _ hf).mono ?_
    rintro e w3 ⟨rfl, hd⟩
    rw [hk]
    clear b0 b1 b2
    replace hb := hb.trans (hd.mono hb.size)
    replace VB := Lib.hid (VB.out.kept hd)
    clear hd
    clear hk
    go_wp2
    go_ret2
    exact ⟨rfl, hb⟩
  | true =>
    obtain ⟨n, hg⟩ := Brd.good hk
    have hc : b.cells.size ≤ 225 := by
      have h1 := hg.cells
      have h2 := sq_mono hg.hi
      omega
    have hml : b.many ≤ 225 := by
      have h1 : b.cells.data.toList.length = b.cells.size := by simp
      have h2 : b.many ≤ b.cells.data.toList.length := List.length_filter_le _ _
      omega
    have hmz : (mkB (lettersL b.cells.data.toList)).size = b.many := by rw [mkB_size]; rfl
    have hall : (mkB (lettersL b.cells.data.toList)).data.toList.all (fun c => letB c.toNat) = true := by
      rw [mkB_data, List.all_eq_true]
      exact hg.letters_let
    have HLO : Hid (∀ W, EnvL W → Calls Tryz.prog 115 #[.agg #[.int .i64 b.size, .string b.premium, .string b.cells]] W (StrPost W (lettersL b.cells.data.toList))) := Lib.hid (fun W h => lettersOn_any b W hc h)
    have HTO : Hid (∀ W, Calls Tryz.prog 126 #[.string (mkB (lettersL b.cells.data.toList))] W (StrPost W b.pile)) := Lib.hid (fun W => by
      have := tilesOf_any (mkB (lettersL b.cells.data.toList)) W (by omega) hall
      rw [mkB_data] at this
      exact this)
    have HM := Lib.hid (on_many hk)
    have HY := Lib.hid (on_yes hk)
    clear hg hall hc
    obtain ⟨ls, hls⟩ : ∃ ls, ls = mkB (lettersL b.cells.data.toList) := ⟨_, rfl⟩
    have HLS := Lib.hid hls.symm
    rw [← hls] at HTO hmz
    clear hls
    go_enter Tryz.func49, Tryz.ntmps49
    go_upto_region 1 with fail
    generalize w.alloc (.cells #[.int .i64 b.size, .string b.premium, .string b.cells] 25) = w1 at *
    have b0 := VB.out.cell (i := 0) rfl
    have b1 := VB.out.cell (i := 1) rfl
    have b2 := VB.out.cell (i := 2) rfl
    go_wp2_with fail
    refine (ValidBoard_any b _ hf).mono ?_
    rintro e w3 ⟨rfl, hd⟩
    rw [hk]
    clear b0 b1 b2
    replace hb := hb.trans (hd.mono hb.size)
    replace VB := Lib.hid (VB.out.kept hd)
    replace HE := Lib.hid (HE.out.kept hd)
    clear hd
    clear hk
    have b0 := VB.out.cell (i := 0) rfl
    have b1 := VB.out.cell (i := 1) rfl
    have b2 := VB.out.cell (i := 2) rfl
    go_wp2_with fail
    refine (HLO.out _ HE.out).mono ?_
    rintro e w4 ⟨rfl, hd⟩
    clear b0 b1 b2 HLO HE
    rw [HLS.out]
    replace hb := hb.trans (hd.mono hb.size)
    replace VB := Lib.hid (VB.out.kept hd)
    clear hd
    by_cases h2 : 120 < b.many
    · have h3 : (120 : Int) < (ls.size : Int) := by omega
      clear HTO HY
      go_wp2
      go_ret2
      exact ⟨(congrArg (fun z : ByteArray × Int => Ending.returned (.tuple #[.string z.1, .int .i64 z.2])) (HM.out h2)).symm, hb⟩
    · have h3 : ¬ (120 : Int) < (ls.size : Int) := by omega
      clear HM
      go_wp2_with fail
      refine (HTO.out _).mono ?_
      rintro e w5 ⟨rfl, hd⟩
      replace hb := hb.trans (hd.mono hb.size)
      replace VB := Lib.hid (VB.out.kept hd)
      clear hd
      go_wp2
      go_ret2
      exact ⟨(congrArg (fun z : ByteArray × Int => Ending.returned (.tuple #[.string z.1, .int .i64 z.2])) (HY.out h2)).symm, hb⟩
set_option maxRecDepth 100000 in
set_option maxHeartbeats 1000000 in
theorem AddTiles_any (a c : ByteArray) (w : World) (ha : a.size ≤ 9223372036854775807) (hc : c.size ≤ 9223372036854775807) :
    Calls Tryz.prog 50 #[.string a, .string c] w fun e w' => e = .returned (.tuple #[.string (addOut a c).1, .int .i64 (addOut a c).2]) ∧ Below w.heap.size w w' := by
  have HV : Hid (∀ s : ByteArray, s.size ≤ 9223372036854775807 → ∀ W, Calls Tryz.prog 127 #[.string s] W fun e w' => e = .returned (.bool (pileOk s.data.toList)) ∧ Below W.heap.size W w') := Lib.hid (fun s hs W => (ValidPile_any s W hs).mono (by rintro e w' ⟨h1, h2⟩; exact ⟨h1, h2.below _⟩))
  cases hk : pileOk a.data.toList with
  | false =>
    rw [add_no (.inl hk)]
    go_enter Tryz.func50, Tryz.ntmps50
    go_wp2_with fail
    refine (HV.out a ha _).mono ?_
    rintro e w3 ⟨rfl, hb⟩
    rw [hk]
    clear hk
    go_wp2
    go_ret2
    exact ⟨rfl, hb⟩
  | true =>
    cases hk2 : pileOk c.data.toList with
    | false =>
      rw [add_no (.inr hk2)]
      go_enter Tryz.func50, Tryz.ntmps50
      go_wp2_with fail
      refine (HV.out a ha _).mono ?_
      rintro e w3 ⟨rfl, hb⟩
      rw [hk]
      clear hk
      go_wp2_with fail
      refine (HV.out c hc _).mono ?_
      rintro e w4 ⟨rfl, hd⟩
      rw [hk2]
      clear hk2
      replace hb := hb.trans (hd.mono hb.size)
      clear hd
      go_wp2
      go_ret2
      exact ⟨rfl, hb⟩
    | true =>
      have l1 : a.size ≤ 120 := by have := pile_120 hk; simpa using this
      have l2 : c.size ≤ 120 := by have := pile_120 hk2; simpa using this
      have hsz : a.size + c.size ≤ 9223372036854775807 := by omega
      have HSO : Hid (∀ W, Calls Tryz.prog 128 #[.string (a ++ c)] W (StrPost W (srtL (a ++ c).data.toList))) := Lib.hid (fun W => sorted_any (a ++ c) W (by rw [ByteArray.size_append]; omega) (by rw [cat_list, List.all_append, pile_tileB hk, pile_tileB hk2]; rfl))
      have HM := Lib.hid (add_many hk hk2)
      have HY := Lib.hid (add_yes hk hk2)
      go_enter Tryz.func50, Tryz.ntmps50
      go_wp2_with fail
      refine (HV.out a ha _).mono ?_
      rintro e w3 ⟨rfl, hb⟩
      rw [hk]
      clear hk
      go_wp2_with fail
      refine (HV.out c hc _).mono ?_
      rintro e w4 ⟨rfl, hd⟩
      rw [hk2]
      clear hk2
      replace hb := hb.trans (hd.mono hb.size)
      clear hd
      by_cases h2 : 120 < a.size + c.size
      · have h3 : (120 : Int) < (a.size : Int) + (c.size : Int) := by omega
        have h4 : IntKind.i64.wrap ((a.size : Int) + (c.size : Int)) = (a.size : Int) + (c.size : Int) := IntWalk.i64_in _ (by omega)
        clear HSO HY HV
        go_wp2
        go_ret2
        exact ⟨(congrArg (fun z : ByteArray × Int => Ending.returned (.tuple #[.string z.1, .int .i64 z.2])) (HM.out h2)).symm, hb⟩
      · have h3 : ¬ (120 : Int) < (a.size : Int) + (c.size : Int) := by omega
        have h4 : IntKind.i64.wrap ((a.size : Int) + (c.size : Int)) = (a.size : Int) + (c.size : Int) := IntWalk.i64_in _ (by omega)
        clear HM HV
        go_wp2_with fail
        refine (HSO.out _).mono ?_
        rintro e w5 ⟨rfl, hd⟩
        replace hb := hb.trans (hd.mono hb.size)
        clear hd
        go_wp2
        go_ret2
        exact ⟨(congrArg (fun z : ByteArray × Int => Ending.returned (.tuple #[.string z.1, .int .i64 z.2])) (HY.out h2)).symm, hb⟩
end Go.Proofs.YtjdcdhhbgijaoaaGreatDoor
namespace Go.Proofs.YtjdcdhhbgijaoaaGreatDoor
open Go.ChangeShapes Go.WideShapes Go.ChangeAt Go.RowKit Go.Sort

theorem f6big_ct (ca : Option Addr) (n cap : Nat) (w : World) : Calls Tryz.prog 9 #[.slice ca n cap] w fun e w' => e = .returned (.bool (decide ((4096 : Int) < n))) ∧ w = w' := by
  go_enter Tryz.func9, Tryz.ntmps9
  go_wp2
  go_ret
  exact ⟨rfl, rfl⟩
def hasB (l : List ByteArray) (s : ByteArray) : Bool := l.any fun x => x.toList == s.toList
theorem hasB_take_succ {xs : List ByteArray} {s : ByteArray} {k : Nat} (h : k < xs.length) : hasB (xs.take (k + 1)) s = (hasB (xs.take k) s || xs[k].toList == s.toList) := by
  unfold hasB
  rw [List.take_succ_eq_append_getElem h, List.any_append]
  simp
theorem hasB_hit {xs : List ByteArray} {s : ByteArray} {k : Nat} (h : k < xs.length) (e : (xs[k].toList == s.toList) = true) : hasB xs s = true := by
  unfold hasB
  rw [List.any_eq_true]
  exact ⟨xs[k], List.getElem_mem h, e⟩
theorem hasB_end {xs : List ByteArray} {s : ByteArray} {k : Nat} (h : ¬ k < xs.length) (e : hasB (xs.take k) s = false) : hasB xs s = false := by
  rwa [List.take_of_length_le (by omega)] at e
set_option maxHeartbeats 2000000 in
theorem f6has_any (xs : List ByteArray) (s : ByteArray) (a : Option Addr) (cap : Nat) (w : World) (hm : SliceAt w 1 Tx.enc a xs) (hl : xs.length ≤ 9223372036854775807) :
    Calls Tryz.prog 53 #[.slice a xs.length cap, .string s] w fun e w' => e = .returned (.bool (hasB xs s)) ∧ w = w' := by
  have HM := Lib.hid hm; clear hm
  go_enter Tryz.func53, Tryz.ntmps53
  go_wp2
  go_loop [5] (fun i => ∃ k : Nat, k ≤ xs.length ∧ i = .int .i64 k ∧ Hid (hasB (xs.take k) s = false)) (fun i => xs.length - (intOf i).toNat)
  case atStart => exact ⟨0, Nat.zero_le _, rfl, Lib.hid (by simp [hasB])⟩
  case round =>
    obtain ⟨k, hk, rfl, HF⟩ := hrel
    by_cases hlt : k < xs.length
    · obtain ⟨mb, mo, rfl, hc⟩ := HM.out.open hlt
      have c0 := hc.at0 hlt rfl
      rw [Nat.mul_one] at c0
      have HS := Lib.hid (hasB_take_succ (s := s) hlt)
      clear hc
      cases h1 : (xs[k].toList == s.toList) with
      | true =>
        have HE := Lib.hid (hasB_hit hlt h1)
        go_wp2
        go_ret
        exact ⟨ret_bool HE.out.symm, rfl⟩
      | false =>
        have HE := Lib.hid h1
        go_wp2
        go_round
        case rel => exact ⟨k + 1, by omega, by go_num, Lib.hid (by rw [HS.out, HF.out, HE.out]; rfl)⟩
        case measure => simp [intOf]; omega
    · go_wp2
      go_ret
      exact ⟨ret_bool (hasB_end hlt HF.out).symm, rfl⟩
theorem eqF_cons {P : Program} {d : Nat} {f : Field} {fs : List Field} {xs ys : Array Value} {a b : Value} {r s : Bool} {w : World} (hn : f.name ≠ "_") (ha : (part f.type xs f.offset).run P w = .ok a w) (hb : (part f.type ys f.offset).run P w = .ok b w)
    (hr : (Op.equalIn d f.type a b).run P w = .ok r w) (hs : (Op.eqFields d xs ys fs).run P w = .ok s w) : (Op.eqFields d xs ys (f :: fs)).run P w = .ok (r && s) w := by
  simp only [Op.eqFields, Sem.run_bind, ha, hb, hr, Result.andThen_ok, hn, ne_eq, not_false_eq_true, if_true, Sem.run_ite]
  cases r
  · simp
  · simp [hs]
theorem eqF_int {d : Nat} {f : Field} {fs : List Field} {xs ys : Array Value} {a b : Int} {s : Bool} {w : World} {n : String} {o : Nat} (hf : (f.name, f.type, f.offset) = (n, 2, o)) (hn : n ≠ "_") (ha : xs[o]? = some (.int .i64 a)) (hb : ys[o]? = some (.int .i64 b))
    (hs : (Op.eqFields (d + 1) xs ys fs).run Tryz.prog w = .ok s w) : (Op.eqFields (d + 1) xs ys (f :: fs)).run Tryz.prog w = .ok ((a == b) && s) w := by
  simp only [Prod.mk.injEq] at hf
  obtain ⟨h1, h2, h3⟩ := hf
  subst h1
  refine eqF_cons hn (a := .int .i64 a) (b := .int .i64 b) ?_ ?_ ?_ hs
  · rw [h2, h3]; exact run_part_plain w (by kernel_rfl) ha
  · rw [h2, h3]; exact run_part_plain w (by kernel_rfl) hb
  · rw [h2]; exact run_equalIn_int w d _ .i64 .i64 a b Tryz.underlying2
theorem eqF_str {d : Nat} {f : Field} {fs : List Field} {xs ys : Array Value} {a b : ByteArray} {s : Bool} {w : World} {n : String} {o : Nat} (hf : (f.name, f.type, f.offset) = (n, 9, o)) (hn : n ≠ "_") (ha : xs[o]? = some (.string a)) (hb : ys[o]? = some (.string b))
    (hs : (Op.eqFields (d + 1) xs ys fs).run Tryz.prog w = .ok s w) : (Op.eqFields (d + 1) xs ys (f :: fs)).run Tryz.prog w = .ok ((a.toList == b.toList) && s) w := by
  simp only [Prod.mk.injEq] at hf
  obtain ⟨h1, h2, h3⟩ := hf
  subst h1
  refine eqF_cons hn (a := .string a) (b := .string b) ?_ ?_ ?_ hs
  · rw [h2, h3]; exact run_part_plain w (by kernel_rfl) ha
  · rw [h2, h3]; exact run_part_plain w (by kernel_rfl) hb
  · rw [h2]; exact run_equalIn_string w d _ a b Tryz.underlying9
theorem uSq : (Tryz.prog.fieldsOf 73).toList.map (fun f => (f.name, f.type, f.offset)) = [("Row", 2, 0), ("Col", 2, 1)] := by kernel_rfl
theorem guard_sq : Tryz.prog.eqGuardType Tryz.prog.depth 73 = false := by kernel_rfl
theorem equalIn_sq (d : Nat) (x y : Int) (w : World) : (Op.equalIn (d + 2) 73 (.agg #[.int .i64 x, .int .i64 y]) (.agg #[.int .i64 x, .int .i64 y])).run Tryz.prog w = .ok ((x == x) && ((y == y) && true)) w := by
  have h1 : Tryz.prog.underlying 73 = some (.struct (Tryz.prog.fieldsOf 73)) := by kernel_rfl
  have h2 : Tryz.prog.stoodInHeld 73 = false := by kernel_rfl
  rw [run_equalIn_agg w (d + 1) 73 _ _ h1 h2]
  have hu := uSq
  match h : (Tryz.prog.fieldsOf 73).toList with
  | [f0, f1] =>
    rw [h] at hu
    simp only [List.map_cons, List.map_nil, List.cons.injEq, and_true] at hu
    obtain ⟨e0, e1⟩ := hu
    exact eqF_int e0 (by decide) rfl rfl (eqF_int e1 (by decide) rfl rfl rfl)
  | [] | [_] | _ :: _ :: _ :: _ => rw [h] at hu; simp at hu
theorem neq_sq (x y : Int) (w : World) : (binOp .neq 73 (.agg #[.int .i64 x, .int .i64 y]) (.agg #[.int .i64 x, .int .i64 y])).run Tryz.prog w = .ok (.bool false) w := by
  rw [run_neq_struct, equalIn_sq 9998]
  simp
theorem uBrd : (Tryz.prog.fieldsOf 25).toList.map (fun f => (f.name, f.type, f.offset)) = [("Size", 2, 0), ("Premium", 9, 1), ("Cells", 9, 2)] := by kernel_rfl
theorem guard_brd : Tryz.prog.eqGuardType Tryz.prog.depth 25 = false := by kernel_rfl
theorem equalIn_brd (d : Nat) (x : Int) (y z : ByteArray) (w : World) : (Op.equalIn (d + 2) 25 (.agg #[.int .i64 x, .string y, .string z]) (.agg #[.int .i64 x, .string y, .string z])).run Tryz.prog w = .ok ((x == x) && ((y.toList == y.toList) && ((z.toList == z.toList) && true))) w := by
  have h1 : Tryz.prog.underlying 25 = some (.struct (Tryz.prog.fieldsOf 25)) := by kernel_rfl
  have h2 : Tryz.prog.stoodInHeld 25 = false := by kernel_rfl
  rw [run_equalIn_agg w (d + 1) 25 _ _ h1 h2]
  have hu := uBrd
  match h : (Tryz.prog.fieldsOf 25).toList with
  | [f0, f1, f2] =>
    rw [h] at hu
    simp only [List.map_cons, List.map_nil, List.cons.injEq, and_true] at hu
    obtain ⟨e0, e1, e2⟩ := hu
    exact eqF_int e0 (by decide) rfl rfl (eqF_str e1 (by decide) rfl rfl (eqF_str e2 (by decide) rfl rfl rfl))
  | [] | [_] | [_, _] | _ :: _ :: _ :: _ :: _ => rw [h] at hu; simp at hu
theorem neq_brd (x : Int) (y z : ByteArray) (w : World) : (binOp .neq 25 (.agg #[.int .i64 x, .string y, .string z]) (.agg #[.int .i64 x, .string y, .string z])).run Tryz.prog w = .ok (.bool false) w := by
  rw [run_neq_struct, equalIn_brd 9998]
  simp
set_option maxHeartbeats 2000000 in
theorem f6same_any (xs : List ByteArray) (a c : Option Addr) (ca cc : Nat) (w : World) (hm : SliceAt w 1 Tx.enc a xs) (hm2 : SliceAt w 1 Tx.enc c xs) (hl : xs.length ≤ 9223372036854775807) :
    Calls Tryz.prog 20 #[.slice a xs.length ca, .slice c xs.length cc] w fun e w' => e = .returned (.bool true) ∧ Below w.heap.size w w' := by
  have HM := Lib.hid hm
  have HM2 := Lib.hid hm2
  have hb := Below.refl w.heap.size w
  clear hm hm2
  go_enter Tryz.func20, Tryz.ntmps20
  go_wp2
  go_loopw [5] (fun i wr => ∃ k : Nat, k ≤ xs.length ∧ i = .int .i64 k ∧ Below w.heap.size w wr) (fun i _ => xs.length - (intOf i).toNat)
  case atStart => exact ⟨0, Nat.zero_le _, rfl, hb⟩
  case round =>
    clear hb
    obtain ⟨k, hk, rfl, hb⟩ := hrel
    by_cases hlt : k < xs.length
    · obtain ⟨mb, mo, rfl, hc⟩ := HM.out.open hlt
      obtain ⟨nb, no, rfl, hc2⟩ := HM2.out.open hlt
      have c0 := cell_kept (hc k hlt 0 _ rfl) hb
      have d0 := cell_kept (hc2 k hlt 0 _ rfl) hb
      simp only [Nat.add_zero, Nat.mul_one] at c0 d0
      clear hc hc2 HM HM2
      generalize xs[k] = x at *
      have e0 := cell_regrown c0
      have f0 := cell_regrown d0
      have hx : (x.toList != x.toList) = false := bne_self_eq_false _
      have hkI : (k : Int) < (xs.length : Int) := by omega
      go_upto_region 6 with fail
      refine wp_region_quiet_below (by kernel_rfl) (by kernel_rfl) ?_
      repeat (go_big_quiet_step (fail))
      refine wpQuiet_nil ?_
      intro wx hw'
      have hd := below_of_ex hw'
      clear hw'
      replace hb := hb.trans (hd.mono hb.size)
      clear hd
      go_wp2
      go_roundw
      case rel => exact ⟨k + 1, by omega, by go_num, hb⟩
      case measure => simp [intOf]; omega
    · go_wp2
      go_ret
      exact ⟨rfl, hb⟩
set_option maxHeartbeats 2000000 in
theorem f6squares_any (xs : List (Int × Int)) (a c : Option Addr) (ca cc : Nat) (w : World) (hm : SliceAt w 2 Sq.enc a xs) (hm2 : SliceAt w 2 Sq.enc c xs) (hl : xs.length ≤ 9223372036854775807) :
    Calls Tryz.prog 47 #[.slice a xs.length ca, .slice c xs.length cc] w fun e w' => e = .returned (.bool true) ∧ Below w.heap.size w w' := by
  have HM := Lib.hid hm
  have HM2 := Lib.hid hm2
  have hb := Below.refl w.heap.size w
  clear hm hm2
  go_enter Tryz.func47, Tryz.ntmps47
  go_wp2
  go_loopw [5] (fun i wr => ∃ k : Nat, k ≤ xs.length ∧ i = .int .i64 k ∧ Below w.heap.size w wr) (fun i _ => xs.length - (intOf i).toNat)
  case atStart => exact ⟨0, Nat.zero_le _, rfl, hb⟩
  case round =>
    clear hb
    obtain ⟨k, hk, rfl, hb⟩ := hrel
    by_cases hlt : k < xs.length
    · obtain ⟨mb, mo, rfl, hc⟩ := HM.out.open hlt
      obtain ⟨nb, no, rfl, hc2⟩ := HM2.out.open hlt
      have c0 := cell_kept (hc k hlt 0 _ rfl) hb
      have d0 := cell_kept (hc2 k hlt 0 _ rfl) hb
      have c1 := cell_kept (hc k hlt 1 _ rfl) hb
      have d1 := cell_kept (hc2 k hlt 1 _ rfl) hb
      simp only [Nat.add_zero] at c0 d0
      clear hc hc2 HM HM2
      generalize xs[k] = x at *
      have e0 := cell_regrown c0
      have f0 := cell_regrown d0
      have e1 := cell_regrown c1
      have f1 := cell_regrown d1
      have hN := neq_sq x.1 x.2
      have hG := guard_sq
      have hkI : (k : Int) < (xs.length : Int) := by omega
      go_upto_region 6 with fail
      refine wp_region_quiet_below (by kernel_rfl) (by kernel_rfl) ?_
      repeat (go_big_quiet_step (fail))
      refine wpQuiet_nil ?_
      intro wx hw'
      have hd := below_of_ex hw'
      clear hw'
      replace hb := hb.trans (hd.mono hb.size)
      clear hd
      go_wp2
      go_roundw
      case rel => exact ⟨k + 1, by omega, by go_num, hb⟩
      case measure => simp [intOf]; omega
    · go_wp2
      go_ret
      exact ⟨rfl, hb⟩
end Go.Proofs.YtjdcdhhbgijaoaaGreatDoor
namespace Go.Proofs.YtjdcdhhbgijaoaaGreatDoor
open Go.ChangeShapes Go.WideShapes Go.ChangeAt Go.RowKit Go.Sort

set_option maxRecDepth 100000 in
set_option maxHeartbeats 2000000 in
theorem specPlacedTiles_any (b : Brd) (p : Ply) (w : World) (hf : b.fit) (hs : p.fit) :
    Calls Tryz.prog 45 #[.agg #[.int .i64 b.size, .string b.premium, .string b.cells], .agg #[.int .i64 p.row, .int .i64 p.col, .bool p.down, .string p.word]] w fun e w' => e = .returned (.tuple #[.string (tilesOut b p).1, .int .i64 (tilesOut b p).2]) ∧ Below w.heap.size w w' := by
  obtain ⟨w2, hw2⟩ : ∃ w2, w2 = (w.alloc (.cells #[.int .i64 b.size, .string b.premium, .string b.cells] 25)).alloc (.cells #[.int .i64 p.row, .int .i64 p.col, .bool p.down, .string p.word] 30) := ⟨_, rfl⟩
  have hb : Below w.heap.size w w2 := by rw [hw2]; exact ((Below.refl _ _).alloc (Nat.le_refl _) _).alloc (by simp) _
  have VB : Hid (VarAt w2 w.heap.size 25 [.int .i64 b.size, .string b.premium, .string b.cells]) := by
    rw [hw2]
    exact Lib.hid ((VarAt.new w 25 [.int .i64 b.size, .string b.premium, .string b.cells]).kept ((Below.refl _ _).alloc (Nat.le_refl _) _))
  have VP : Hid (VarAt w2 (w.heap.size + 1) 30 [.int .i64 p.row, .int .i64 p.col, .bool p.down, .string p.word]) := by
    rw [hw2]
    have := VarAt.new (w.alloc (.cells #[.int .i64 b.size, .string b.premium, .string b.cells] 25)) 30 [.int .i64 p.row, .int .i64 p.col, .bool p.down, .string p.word]
    simp only [World.size_alloc] at this
    exact Lib.hid this
  have HG : Hid (BAt w2 w.heap.size 0 b) := Lib.hid ⟨VB.out.cell (i := 0) rfl, VB.out.cell (i := 1) rfl, VB.out.cell (i := 2) rfl⟩
  have HW2 := Lib.hid hw2
  clear hw2 VB
  cases hk : b.okPlay p with
  | false =>
    rw [tilesOut_no hk]
    go_enter Tryz.func45, Tryz.ntmps45
    go_upto_region 1 with fail
    rw [← HW2.out]
    clear HW2
    have c0 := VP.out.cell (i := 0) rfl
    have c1 := VP.out.cell (i := 1) rfl
    have c2 := VP.out.cell (i := 2) rfl
    have c3 := VP.out.cell (i := 3) rfl
    go_wp2_with fail
    refine (l12Ok_any b p w.heap.size 0 _ HG.out hf hs).mono ?_
    rintro e w3 ⟨rfl, hd⟩
    rw [hk]
    clear hk c0 c1 c2 c3
    replace hb := hb.trans (hd.mono hb.size)
    replace VP := Lib.hid (VP.out.kept hd)
    clear hd
    go_wp2
    go_ret2
    exact ⟨rfl, hb⟩
  | true =>
    obtain ⟨n, hp⟩ := okPlay_good hk
    rw [tilesOut_yes hk]
    have hs12 := hp.twelve
    have hfl : (b.fresh p).length ≤ p.word.size := freshL_len _ _ _ _
    have HFL : Hid (∀ W, BAt W w.heap.size 0 b → Calls Tryz.prog 91 #[.pointer (some ⟨w.heap.size, 0, none⟩), .agg #[.int .i64 p.row, .int .i64 p.col, .bool p.down, .string p.word]] W fun e w' => e = .returned (flatV b p) ∧ Below W.heap.size W w') := Lib.hid (fun W h => l12Flat_any b p n w.heap.size 0 W hp.good h)
    have HPL : Hid (∀ x W, BAt W x 0 (b.flat p.down) → Calls Tryz.prog 123 #[.pointer (some ⟨x, 0, none⟩), .agg #[.int .i64 p.flat.row, .int .i64 p.flat.col, .bool p.flat.down, .string p.word]] W (StrPost W (placedB p.word (b.fresh p)))) := Lib.hid (fun x W h => by
      refine l12Placed_of (b.flat p.down) p.flat.row p.flat.col p.flat.down p.word (b.fresh p) x W h (Lib.hid (fun W2 h2 => ?_)) (fun i hi => (freshL_lt hi).1) (by omega)
      have := l12Fresh_any (b.flat p.down) n p.flat.row p.flat.col p.flat.down p.word x 0 W2 (hp.good.flat p.down) h2 hp.twelve (by rw [Ply.flat_row]; exact hp.r0) (by rw [Ply.flat_row]; exact hp.r1) (by rw [Ply.flat_col]; exact hp.c0) (by rw [Ply.flat_col]; exact hp.c1)
      rw [Ply.flat_row, Ply.flat_col] at this ⊢
      exact this)
    have HTI : Hid (∀ W, Calls Tryz.prog 122 #[.string (mkB (placedB p.word (b.fresh p)))] W fun e w' => e = .returned (.string (mkB (srtL (b.tiles p)))) ∧ Below W.heap.size W w') := Lib.hid (fun W => by
      have := l03Tiles_any (mkB (placedB p.word (b.fresh p))) W (by rw [mkB_size, placedB_len]; omega)
      rw [mkB_data] at this
      refine this.mono ?_
      rintro e w' ⟨R, h1, h2, h3, h4⟩
      have h5 : R = srtL (b.tiles p) := srt_eq (List.all_eq_true.2 hp.tiles_ok) h2 h3
      rw [← h5]
      exact ⟨h1, h4⟩)
    clear hp hfl hs12
    generalize placedB p.word (b.fresh p) = pb at *
    generalize mkB (srtL (b.tiles p)) = tl at *
    go_enter Tryz.func45, Tryz.ntmps45
    go_upto_region 1 with fail
    rw [← HW2.out]
    clear HW2
    have c0 := VP.out.cell (i := 0) rfl
    have c1 := VP.out.cell (i := 1) rfl
    have c2 := VP.out.cell (i := 2) rfl
    have c3 := VP.out.cell (i := 3) rfl
    go_wp2_with fail
    refine (l12Ok_any b p w.heap.size 0 _ HG.out hf hs).mono ?_
    rintro e w3 ⟨rfl, hd⟩
    rw [hk]
    clear hk c0 c1 c2 c3
    replace hb := hb.trans (hd.mono hb.size)
    replace VP := Lib.hid (VP.out.kept hd)
    replace HG := Lib.hid (HG.out.kept hd)
    clear hd
    have c0 := VP.out.cell (i := 0) rfl
    have c1 := VP.out.cell (i := 1) rfl
    have c2 := VP.out.cell (i := 2) rfl
    have c3 := VP.out.cell (i := 3) rfl
    go_wp2_with fail
    refine (HFL.out _ HG.out).mono ?_
    rintro e w4 ⟨rfl, hd⟩
    unfold flatV
    clear c0 c1 c2 c3
    replace hb := hb.trans (hd.mono hb.size)
    replace VP := Lib.hid (VP.out.kept hd)
    replace HG := Lib.hid (HG.out.kept hd)
    clear hd
    generalize b.flat p.down = f at *
    generalize p.flat.row = fr0 at *
    generalize p.flat.col = fc at *
    generalize p.flat.down = fd at *
    have HF : Hid (BAt ((w4.alloc (.cells #[.int .i64 f.size, .string f.premium, .string f.cells] 25)).alloc (.cells #[.int .i64 fr0, .int .i64 fc, .bool fd, .string p.word] 30)) w4.heap.size 0 f) := Lib.hid ((BAt.new w4 f 25).kept ((Below.refl _ _).alloc (Nat.le_refl _) _))
    have HQ : Hid (VarAt ((w4.alloc (.cells #[.int .i64 f.size, .string f.premium, .string f.cells] 25)).alloc (.cells #[.int .i64 fr0, .int .i64 fc, .bool fd, .string p.word] 30)) (w4.heap.size + 1) 30 [.int .i64 fr0, .int .i64 fc, .bool fd, .string p.word]) := Lib.hid (by
      have := VarAt.new (w4.alloc (.cells #[.int .i64 f.size, .string f.premium, .string f.cells] 25)) 30 [.int .i64 fr0, .int .i64 fc, .bool fd, .string p.word]
      simp only [World.size_alloc] at this
      exact this)
    have hd : Below w4.heap.size w4 ((w4.alloc (.cells #[.int .i64 f.size, .string f.premium, .string f.cells] 25)).alloc (.cells #[.int .i64 fr0, .int .i64 fc, .bool fd, .string p.word] 30)) := ((Below.refl _ _).alloc (Nat.le_refl _) _).alloc (by simp) _
    replace hb := hb.trans (hd.mono hb.size)
    replace VP := Lib.hid (VP.out.kept hd)
    replace HG := Lib.hid (HG.out.kept hd)
    clear hd
    go_upto_region 4 with fail
    generalize (w4.alloc (.cells #[.int .i64 f.size, .string f.premium, .string f.cells] 25)).alloc (.cells #[.int .i64 fr0, .int .i64 fc, .bool fd, .string p.word] 30) = w5 at *
    have q0 := HQ.out.cell (i := 0) rfl
    have q1 := HQ.out.cell (i := 1) rfl
    have q2 := HQ.out.cell (i := 2) rfl
    have q3 := HQ.out.cell (i := 3) rfl
    go_wp2_with fail
    refine (HPL.out _ _ HF.out).mono ?_
    rintro e w6 ⟨rfl, hd⟩
    clear q0 q1 q2 q3 HF HQ
    replace hb := hb.trans (hd.mono hb.size)
    replace VP := Lib.hid (VP.out.kept hd)
    clear hd
    go_wp2_with fail
    refine (HTI.out _).mono ?_
    rintro e w7 ⟨rfl, hd⟩
    replace hb := hb.trans (hd.mono hb.size)
    replace VP := Lib.hid (VP.out.kept hd)
    clear hd
    go_wp2
    go_ret2
    exact ⟨rfl, hb⟩
end Go.Proofs.YtjdcdhhbgijaoaaGreatDoor
