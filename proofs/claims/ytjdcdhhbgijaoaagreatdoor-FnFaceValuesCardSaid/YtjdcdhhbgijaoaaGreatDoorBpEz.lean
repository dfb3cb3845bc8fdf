/- Contracts: the greatest of a list of scored plays, and where it lies. No condition but tha · Contracts: where a scored play lies in a list. No condition but that lengths fit an int. · Contracts: whether a list of plays may be scored. Go's tables of unicode and unicode/utf8  -/
import Derived.Test.YtjdcdhhbgijaoaaGreatDoorBpB
import Derived.Test.YtjdcdhhbgijaoaaGreatDoorGmEz
import Derived.Test.YtjdcdhhbgijaoaaGreatDoorFpP
namespace Go.Proofs.YtjdcdhhbgijaoaaGreatDoor
open Go.ChangeShapes Go.WideShapes Go.ChangeAt Go.RowKit Go.Sort

/-- a scored play -/
abbrev Mv := Int × Ply
def mv0 : Mv := (0, ⟨0, 0, false, ⟨#[]⟩⟩)
def mvEnc (m : Mv) : List Value := mcells m.1 m.2
def mvS (ms : List Mv) (i : Nat) : Int := (ms.getD i mv0).1
def mvP (ms : List Mv) (i : Nat) : Ply := (ms.getD i mv0).2
/-- where the best of the first k + 1 lies -/
def mvB (ms : List Mv) (k : Nat) : Nat := bestK (mvS ms) (mvP ms) k
theorem mvB_step (ms : List Mv) (k : Nat) : mvB ms (k + 1) = if mvCmp (mvS ms (k + 1)) (mvS ms (mvB ms k)) (mvP ms (k + 1)) (mvP ms (mvB ms k)) < 0 then k + 1 else mvB ms k := rfl
theorem mvB_le (ms : List Mv) (k : Nat) : mvB ms k ≤ k := bestK_le _ _ k
theorem mv_cells {w : World} {a : Option Addr} {ms : List Mv} (h : SliceAt w 5 mvEnc a ms) {k : Nat} (hk : k < ms.length) : ∃ b o, a = some ⟨b, o, none⟩ ∧ ∀ j v, (mcells (mvS ms k) (mvP ms k))[j]? = some v → w.cell? ⟨b, o + k * 5 + j, none⟩ = some v := by
  obtain ⟨b, o, rfl, hc⟩ := h.open hk
  refine ⟨b, o, rfl, fun j v hv => hc k hk j v ?_⟩
  rw [← hv]
  unfold mvS mvP
  rw [List.getD_eq_getElem?_getD, List.getElem?_eq_getElem hk]
  rfl
theorem size_move (s : Int) (a : Ply) : (Tryz.prog.info? 125).map (·.size) = some (mcells s a).length := by kernel_rfl
theorem mcells_one (s : Int) (a : Ply) : ∀ v ∈ mcells s a, v.oneCell' = true := by
  intro v hv
  simp only [mcells, List.mem_cons, List.not_mem_nil, or_false] at hv
  rcases hv with rfl | rfl | rfl | rfl | rfl <;> rfl
def mzero : List Value := [.int .i64 0, .int .i64 0, .bool false, .string ⟨#[]⟩, .int .i64 0]
set_option maxRecDepth 100000 in
set_option maxHeartbeats 8000000 in
theorem maxFunc_any (ms : List Mv) (a : Option Addr) (cap : Nat) (w : World) (hm : SliceAt w 5 mvEnc a ms) (hn : 0 < ms.length) (hl : ms.length ≤ 9223372036854775807) :
    Calls Tryz.prog 110 #[.slice a ms.length cap, .func (.func 111) #[] #[]] w fun e w' => e = .returned (.agg (mcells (mvS ms (mvB ms (ms.length - 1))) (mvP ms (mvB ms (ms.length - 1)))).toArray) ∧ Below w.heap.size w w' := by
  obtain ⟨b, o, rfl, c0⟩ := mv_cells hm hn
  rw [Nat.zero_mul, Nat.add_zero] at c0
  have HM := Lib.hid hm
  have HN := Lib.hid hn
  have HLN : Hid (∀ s a, (mcells s a).length = 5) := Lib.hid (fun _ _ => rfl)
  have HSM := Lib.hid size_move
  have H1C := Lib.hid mcells_one
  have hb1 : Below w.heap.size w (w.alloc (.cells mzero.toArray 125)) := (Below.refl _ _).alloc (Nat.le_refl _) _
  have V4 := VarAt.new w 125 mzero
  have HF : Hid (∀ s t x y W, Calls Tryz.prog 111 #[.agg (mcells s x).toArray, .agg (mcells t y).toArray] W fun e w' => e = .returned (.int .i64 (- mvCmp s t x y)) ∧ Below W.heap.size W w') := Lib.hid (fun s t x y W => bestFn_any s t x y W)
  have hl1 : ¬ (ms.length : Int) < 1 := by omega
  have hl2 : (0 : Int) < (ms.length : Int) := by omega
  replace c0 := fun j v hv => cell_kept (c0 j v hv) hb1
  clear hm
  go_enter Tryz.func110, Tryz.ntmps110
  go_upto_region 3 with fail
  change Code.wp _ _ _ _ (w.alloc (.cells mzero.toArray 125))
  generalize w.alloc (.cells mzero.toArray 125) = w1 at *
  have V6 := VarAt.new w1 125 mzero
  obtain ⟨o6, k6⟩ := V6.put (mcells (mvS ms 0) (mvP ms 0)) (by rw [HLN.out]; rfl)
  have tR := V6.there (n := (mcells (mvS ms 0) (mvP ms 0)).length) (by rw [HLN.out]; rfl)
  have hd : Below w1.heap.size w1 ((w1.alloc (.cells mzero.toArray 125)).setCells w1.heap.size 0 (mcells (mvS ms 0) (mvP ms 0))) := ((Below.refl _ _).alloc (Nat.le_refl _) _).grown k6 (by simp) (fun q h => by cases h; exact Nat.le_refl _)
  have rA : w1.rangeAt b o (mcells (mvS ms 0) (mvP ms 0)) := fun j v hv => c0 j v hv
  have HX : Hid (w.heap.size < w1.heap.size) := Lib.hid V4.lt
  clear V6 k6 c0
  go_upto_region 4 with (first | (refine wpList_load_mid rfl 125 _ rfl b o rfl (mcells (mvS ms 0) (mvP ms 0)) _ rA Tryz.underlying125 rfl (HSM.out _ _) ?_) | (refine wpList_store_mid rfl 125 _ _ rfl w1.heap.size 0 (mcells (mvS ms 0) (mvP ms 0)).toArray rfl rfl tR (HSM.out _ _) (all_oneCell_toArray (H1C.out _ _)) ?_))
  clear tR rA
  change Code.wp _ _ _ _ ((w1.alloc (.cells mzero.toArray 125)).setCells w1.heap.size 0 (mcells (mvS ms 0) (mvP ms 0)))
  have VR := Lib.hid o6
  have VZ := Lib.hid (VarAt.kept V4 hd)
  have hb := hb1.trans (hd.mono hb1.size)
  clear o6 hd hb1 V4
  generalize (w1.alloc (.cells mzero.toArray 125)).setCells w1.heap.size 0 (mcells (mvS ms 0) (mvP ms 0)) = w2 at *
  generalize w1.heap.size = B at *
  have HB0 : Hid (mvB ms 0 = 0) := Lib.hid rfl
  have HST := Lib.hid (mvB_step ms)
  go_upto_region 5 with fail
  go_loopw [6] (fun iv wr => ∃ (k : Nat), k < ms.length ∧ iv = .int .i64 ((k + 1 : Nat) : Int) ∧ Hid (VarAt wr B 125 (mcells (mvS ms (mvB ms k)) (mvP ms (mvB ms k)))) ∧ Hid (VarAt wr w.heap.size 125 mzero) ∧ Below w.heap.size w wr) (fun iv _ => ms.length - (intOf iv).toNat)
  case atStart => exact ⟨0, HN.out, rfl, by rw [HB0.out]; exact VR, VZ, hb⟩
  case round =>
    clear VR VZ hb HB0
    obtain ⟨k, hk, rfl, VR, VZ, hb⟩ := hrel
    by_cases hk2 : k + 1 < ms.length
    · obtain ⟨b', o', hbo, c1⟩ := mv_cells HM.out hk2
      cases hbo
      replace c1 := fun j v hv => cell_kept (c1 j v hv) hb
      have HC1 := Lib.hid c1
      have HSK := Lib.hid (HST.out k)
      have HTR := Lib.hid (mvCmp_tri (mvS ms (k + 1)) (mvS ms (mvB ms k)) (mvP ms (k + 1)) (mvP ms (mvB ms k)))
      have HFF := Lib.hid (HF.out (mvS ms (k + 1)) (mvS ms (mvB ms k)) (mvP ms (k + 1)) (mvP ms (mvB ms k)))
      generalize hbk : mvB ms k = bk at *
      clear hbk c1
      generalize hs1 : mvS ms (k + 1) = s1 at *
      generalize hp1 : mvP ms (k + 1) = p1 at *
      generalize hs2 : mvS ms bk = s2 at *
      generalize hp2 : mvP ms bk = p2 at *
      generalize hr : mvCmp s1 s2 p1 p2 = r at *
      have HS1 := Lib.hid hs1
      have HP1 := Lib.hid hp1
      have HS2 := Lib.hid hs2
      have HP2 := Lib.hid hp2
      clear hs1 hp1 hs2 hp2 hr HST
      have hk0 : (0 : Int) ≤ (k : Int) + 1 := by omega
      have hk3 : (k : Int) + 1 < (ms.length : Int) := by omega
      go_upto_region 7 with fail
      have hd : Below wr.heap.size wr wr.drew := (Below.refl _ _).drew
      replace HC1 := Lib.hid (fun j v hv => cell_kept (HC1.out j v hv) hd)
      replace hb := hb.trans (hd.mono hb.size)
      replace VR := Lib.hid (VR.out.kept hd)
      replace VZ := Lib.hid (VZ.out.kept hd)
      clear hd
      have c10 := HC1.out 0 _ rfl
      have c11 := HC1.out 1 _ rfl
      have c12 := HC1.out 2 _ rfl
      have c13 := HC1.out 3 _ rfl
      have c14 := HC1.out 4 _ rfl
      rw [Nat.add_zero] at c10
      have r0 := VR.out.cell (i := 0) rfl
      have r1 := VR.out.cell (i := 1) rfl
      have r2 := VR.out.cell (i := 2) rfl
      have r3 := VR.out.cell (i := 3) rfl
      have r4 := VR.out.cell (i := 4) rfl
      refine wp_region_still_tail 6 (by kernel_rfl) (by kernel_rfl) ?_
      simp only [List.take_succ_cons, List.take_zero, List.drop_succ_cons, List.drop_zero]
      change wpStill _ _ wr.drew (fun a' => wpList _ _ _ _ a' wr.drew) _ _
      generalize wr.drew = wd at *
      iterate 6 still_step
      refine wpStill_nil ?_
      clear c10 c11 c12 c13 c14 r0 r1 r2 r3 r4
      go_wp2_with fail
      refine (HFF.out _).mono ?_
      rintro e w3 ⟨rfl, hd⟩
      replace HC1 := Lib.hid (fun j v hv => cell_kept (HC1.out j v hv) hd)
      replace hb := hb.trans (hd.mono hb.size)
      replace VR := Lib.hid (VR.out.kept hd)
      replace VZ := Lib.hid (VZ.out.kept hd)
      clear hd
      rcases HTR.out with h | h | h
      · have HB2 : Hid (mvB ms (k + 1) = k + 1) := Lib.hid (by rw [HSK.out, if_pos (by omega)])
        subst h
        clear HSK HTR HFF
        go_upto_region 8 with fail
        obtain ⟨o8, k8⟩ := VR.out.put (mcells s1 p1) (by rw [HLN.out, HLN.out])
        have tR := VR.out.there (n := (mcells s1 p1).length) (by rw [HLN.out, HLN.out])
        have rA : w3.rangeAt b (o + (k + 1) * 5) (mcells s1 p1) := fun j v hv => HC1.out j v hv
        have hB1 := hb.grown k8 hb.size (fun q h => by cases h; exact Nat.le_of_lt HX.out)
        have VZ8 := Lib.hid (VZ.out.grown k8 (by intro e; cases e; exact absurd HX.out (Nat.lt_irrefl _)))
        go_upto_region 6 with (first | (refine wpList_load_mid rfl 125 _ rfl b (o + (k + 1) * 5) rfl (mcells s1 p1) _ rA Tryz.underlying125 rfl (HSM.out _ _) ?_) | (refine wpList_store_mid rfl 125 _ _ rfl B 0 (mcells s1 p1).toArray rfl rfl tR (HSM.out _ _) (all_oneCell_toArray (H1C.out _ _)) ?_))
        clear tR rA k8 VR VZ hb HC1
        change Code.wp _ _ _ _ (w3.setCells B 0 (mcells s1 p1))
        have VR8 := Lib.hid o8
        clear o8
        generalize w3.setCells B 0 (mcells s1 p1) = w4 at *
        go_wp2
        go_roundw
        case rel => exact ⟨k + 1, hk2, by go_num, by rw [HB2.out, HS1.out, HP1.out]; exact VR8, VZ8, hB1⟩
        case measure => simp [intOf]; omega
      · have HB2 : Hid (mvB ms (k + 1) = bk) := Lib.hid (by rw [HSK.out, if_neg (by omega)])
        subst h
        clear HSK HTR HFF HC1
        go_wp2
        go_roundw
        case rel => exact ⟨k + 1, hk2, by go_num, by rw [HB2.out, HS2.out, HP2.out]; exact VR, VZ, hb⟩
        case measure => simp [intOf]; omega
      · have HB2 : Hid (mvB ms (k + 1) = bk) := Lib.hid (by rw [HSK.out, if_neg (by omega)])
        subst h
        clear HSK HTR HFF HC1
        go_wp2
        go_roundw
        case rel => exact ⟨k + 1, hk2, by go_num, by rw [HB2.out, HS2.out, HP2.out]; exact VR, VZ, hb⟩
        case measure => simp [intOf]; omega
    · have e : k = ms.length - 1 := by omega
      have HK : Hid (mvB ms (ms.length - 1) = mvB ms k) := Lib.hid (by rw [e])
      rw [← HK.out] at VR
      have HQ := Lib.hid (HSM.out (mvS ms (mvB ms (ms.length - 1))) (mvP ms (mvB ms (ms.length - 1))))
      have HQ1 := Lib.hid (H1C.out (mvS ms (mvB ms (ms.length - 1))) (mvP ms (mvB ms (ms.length - 1))))
      have HQL := Lib.hid (HLN.out (mvS ms (mvB ms (ms.length - 1))) (mvP ms (mvB ms (ms.length - 1))))
      obtain ⟨fl, hfl⟩ : ∃ fl, fl = mcells (mvS ms (mvB ms (ms.length - 1))) (mvP ms (mvB ms (ms.length - 1))) := ⟨_, rfl⟩
      rw [← hfl] at VR HQ HQ1 HQL
      have HFL := Lib.hid hfl
      clear hfl e HST HF HSM H1C HK
      go_upto_region 9 with fail
      obtain ⟨o9, k9⟩ := VZ.out.put fl (by rw [HQL.out]; rfl)
      have tR := VZ.out.there (n := fl.length) (by rw [HQL.out]; rfl)
      have rA := VR.out.range
      have hB1 := hb.grown k9 hb.size (fun q h => by cases h; exact Nat.le_refl _)
      refine wp_region_list ?_
      refine wpList_load_mid rfl 125 _ rfl B 0 rfl fl _ rA Tryz.underlying125 rfl HQ.out ?_
      refine wpList_store_mid rfl 125 _ _ rfl w.heap.size 0 fl.toArray rfl rfl tR HQ.out (all_oneCell_toArray HQ1.out) ?_
      change wpList _ _ _ _ _ (wr.setCells w.heap.size 0 fl)
      clear tR rA k9 hb VR VZ
      have rZ := o9.range
      clear o9
      generalize wr.setCells w.heap.size 0 fl = wZ at *
      have hV : (loadVar 125 ⟨w.heap.size, 0, none⟩).run Tryz.prog wZ = .ok (.agg fl.toArray) wZ := run_loadVar_mid wZ _ 0 125 fl _ rZ Tryz.underlying125 rfl HQ.out
      have HV := Lib.hid hV
      clear rZ hV
      go_wp2
      refine bodyPost_ret (results_cell_var Tryz.results110 _ _ _ _ rfl HV.out) rfl ?_
      exact ⟨by rw [HFL.out], hB1⟩
end Go.Proofs.YtjdcdhhbgijaoaaGreatDoor
namespace Go.Proofs.YtjdcdhhbgijaoaaGreatDoor
open Go.ChangeShapes Go.WideShapes Go.ChangeAt Go.RowKit Go.Sort

theorem uMove : (Tryz.prog.fieldsOf 125).toList.map (fun f => (f.name, f.type, f.offset)) = [("Play", 30, 0), ("Score", 2, 4)] := by kernel_rfl
/-- whether two scored plays are the same -/
def mvEqB (s t : Int) (a b : Ply) : Bool := ((a.row == b.row) && ((a.col == b.col) && ((a.down == b.down) && ((a.word.toList == b.word.toList) && true)))) && ((s == t) && true)
theorem mvEqB_iff {s t : Int} {a b : Ply} : mvEqB s t a b = true ↔ (s = t ∧ a = b) := by
  unfold mvEqB
  rw [str_dec]
  cases a
  cases b
  simp only [Bool.and_true, Bool.and_eq_true, beq_iff_eq, decide_eq_true_eq, Ply.mk.injEq]
  constructor
  · rintro ⟨⟨h1, h2, h3, h4⟩, h5⟩; exact ⟨h5, h1, h2, h3, h4⟩
  · rintro ⟨h5, h1, h2, h3, h4⟩; exact ⟨⟨h1, h2, h3, h4⟩, h5⟩
theorem eql_move (s t : Int) (a b : Ply) (w : World) :
    (binOp .eql 125 (.agg #[.int .i64 a.row, .int .i64 a.col, .bool a.down, .string a.word, .int .i64 s]) (.agg #[.int .i64 b.row, .int .i64 b.col, .bool b.down, .string b.word, .int .i64 t])).run Tryz.prog w = .ok (.bool (mvEqB s t a b)) w := by
  rw [run_eql_struct]
  have h1 : Tryz.prog.underlying 125 = some (.struct (Tryz.prog.fieldsOf 125)) := by kernel_rfl
  have h2 : Tryz.prog.stoodInHeld 125 = false := by kernel_rfl
  rw [run_equalIn_agg w 9999 125 _ _ h1 h2]
  have hu := uMove
  have key : (Op.eqFields 9999 #[.int .i64 a.row, .int .i64 a.col, .bool a.down, .string a.word, .int .i64 s] #[.int .i64 b.row, .int .i64 b.col, .bool b.down, .string b.word, .int .i64 t] (Tryz.prog.fieldsOf 125).toList).run Tryz.prog w = .ok (mvEqB s t a b) w := by
    match h : (Tryz.prog.fieldsOf 125).toList with
    | [f0, f1] =>
      rw [h] at hu
      simp only [List.map_cons, List.map_nil, List.cons.injEq, and_true] at hu
      obtain ⟨e0, e1⟩ := hu
      unfold mvEqB
      simp only [Prod.mk.injEq] at e0
      obtain ⟨n0, t0, o0⟩ := e0
      refine eqF_cons (by rw [n0]; decide) (a := .agg #[.int .i64 a.row, .int .i64 a.col, .bool a.down, .string a.word]) (b := .agg #[.int .i64 b.row, .int .i64 b.col, .bool b.down, .string b.word]) ?_ ?_ ?_ ?_
      · rw [t0, o0]; exact part_play _ 0 _ rfl w
      · rw [t0, o0]; exact part_play _ 0 _ rfl w
      · rw [t0]; exact equalIn_play 9997 a.row b.row a.col b.col a.down b.down a.word b.word w
      · exact eqF_int e1 (by decide) rfl rfl rfl
    | [] | [_] | _ :: _ :: _ :: _ => rw [h] at hu; simp at hu
  rw [key]
  rfl
set_option maxRecDepth 100000 in
set_option maxHeartbeats 4000000 in
theorem indexMove_any (ms : List Mv) (a : Option Addr) (cap : Nat) (s : Int) (p : Ply) (K : Nat) (w : World) (hm : SliceAt w 5 mvEnc a ms) (hK : K < ms.length) (hl : ms.length ≤ 9223372036854775807) (hs : mvS ms K = s) (hp : mvP ms K = p) (hno : ∀ j, j < K → ¬ (mvS ms j = s ∧ mvP ms j = p)) :
    Calls Tryz.prog 113 #[.slice a ms.length cap, .agg #[.int .i64 p.row, .int .i64 p.col, .bool p.down, .string p.word, .int .i64 s]] w fun e w' => e = .returned (.int .i64 (K : Nat)) ∧ Below w.heap.size w w' := by
  obtain ⟨b, o, rfl, _⟩ := mv_cells hm hK
  have HM := Lib.hid hm
  have HS := Lib.hid hs
  have HP := Lib.hid hp
  have HNO := Lib.hid hno
  have hb1 : Below w.heap.size w (w.alloc (.cells (mcells s p).toArray 125)) := (Below.refl _ _).alloc (Nat.le_refl _) _
  have VR := Lib.hid (VarAt.new w 125 (mcells s p))
  have HEQ : Hid (∀ s t x y W, (binOp .eql 125 (.agg (mcells s x).toArray) (.agg (mcells t y).toArray)).run Tryz.prog W = .ok (.bool (mvEqB s t x y)) W) := Lib.hid (fun s t x y W => eql_move s t x y W)
  have hgq : Tryz.prog.eqGuardType Tryz.prog.depth 125 = false := by kernel_rfl
  clear hm hs hp hno
  go_enter Tryz.func113, Tryz.ntmps113
  go_upto_region 2 with fail
  change Code.wp _ _ _ _ (w.alloc (.cells (mcells s p).toArray 125))
  generalize w.alloc (.cells (mcells s p).toArray 125) = w1 at *
  go_loopw [5, 8] (fun _ iv wr => ∃ (k : Nat), k ≤ K ∧ iv = .int .i64 k ∧ Hid (VarAt wr w.heap.size 125 (mcells s p)) ∧ Below w.heap.size w wr) (fun _ iv _ => ms.length - (intOf iv).toNat)
  case atStart => exact ⟨0, Nat.zero_le _, rfl, VR, hb1⟩
  case round =>
    clear VR hb1
    obtain ⟨k, hk, rfl, VR, hb⟩ := hrel
    have hk2 : k < ms.length := by omega
    obtain ⟨b', o', hbo, c1⟩ := mv_cells HM.out hk2
    cases hbo
    replace c1 := fun j v hv => cell_kept (c1 j v hv) hb
    have HC1 := Lib.hid c1
    clear c1
    have hk0 : (0 : Int) ≤ (k : Int) := by omega
    have hk3 : (k : Int) < (ms.length : Int) := by omega
    go_upto_region 4 with fail
    have hd : Below wr.heap.size wr wr.drew := (Below.refl _ _).drew
    replace HC1 := Lib.hid (fun j v hv => cell_kept (HC1.out j v hv) hd)
    replace hb := hb.trans (hd.mono hb.size)
    replace VR := Lib.hid (VR.out.kept hd)
    clear hd
    have c10 := HC1.out 0 _ rfl
    have c11 := HC1.out 1 _ rfl
    have c12 := HC1.out 2 _ rfl
    have c13 := HC1.out 3 _ rfl
    have c14 := HC1.out 4 _ rfl
    rw [Nat.add_zero] at c10
    have r0 := VR.out.cell (i := 0) rfl
    have r1 := VR.out.cell (i := 1) rfl
    have r2 := VR.out.cell (i := 2) rfl
    have r3 := VR.out.cell (i := 3) rfl
    have r4 := VR.out.cell (i := 4) rfl
    have hq := HEQ.out s (mvS ms k) p (mvP ms k)
    dsimp only [mcells] at hq
    refine wp_region_still_tail 5 (by kernel_rfl) (by kernel_rfl) ?_
    simp only [List.take_succ_cons, List.take_zero, List.drop_succ_cons, List.drop_zero]
    change wpStill _ _ wr.drew (fun a' => wpList _ _ _ _ a' wr.drew) _ _
    generalize wr.drew = wd at *
    iterate 5 still_step
    refine wpStill_nil ?_
    clear c10 c11 c12 c13 c14 r0 r1 r2 r3 r4
    by_cases hkK : k = K
    · have he : mvEqB s (mvS ms k) p (mvP ms k) = true := mvEqB_iff.2 ⟨by rw [hkK, HS.out], by rw [hkK, HP.out]⟩
      rw [he] at hq
      subst hkK
      clear he
      go_wp2
      go_ret
      exact ⟨rfl, hb⟩
    · have he : mvEqB s (mvS ms k) p (mvP ms k) = false := by
        rw [Bool.eq_false_iff]
        intro h
        obtain ⟨h1, h2⟩ := mvEqB_iff.1 h
        exact HNO.out k (by omega) ⟨h1.symm, h2.symm⟩
      rw [he] at hq
      clear he
      go_wp2
      go_roundw
      case rel => exact ⟨k + 1, by omega, by go_num, VR, hb⟩
      case measure => simp [intOf]; omega
end Go.Proofs.YtjdcdhhbgijaoaaGreatDoor
namespace Go.Proofs.YtjdcdhhbgijaoaaGreatDoor
open Go.ChangeShapes Go.WideShapes Go.ChangeAt Go.RowKit Go.Sort

theorem ply_cells {w : World} {a : Option Addr} {ps : List Ply} (h : SliceAt w 4 Ply.enc a ps) {k : Nat} (hk : k < ps.length) : ∃ b o, a = some ⟨b, o, none⟩ ∧ ∀ j v, (Ply.enc ps[k])[j]? = some v → w.cell? ⟨b, o + k * 4 + j, none⟩ = some v := by
  obtain ⟨b, o, rfl, hc⟩ := h.open hk
  exact ⟨b, o, rfl, fun j v hv => hc k hk j v hv⟩
/-- whether all plays of a list lie well -/
def allPlays (b : Brd) (ps : List Ply) : Bool := ps.all b.okPlay
theorem plays_no {b : Brd} {ps : List Ply} {k : Nat} (hk : k < ps.length) (h : b.okPlay ps[k] = false) : allPlays b ps = false := by
  unfold allPlays
  rw [Bool.eq_false_iff]
  intro h2
  rw [List.all_eq_true] at h2
  rw [h2 _ (List.getElem_mem hk)] at h
  cases h
theorem plays_yes {b : Brd} {ps : List Ply} (h : ∀ k (hk : k < ps.length), b.okPlay ps[k] = true) : allPlays b ps = true := by
  unfold allPlays
  rw [List.all_eq_true]
  intro p hp
  obtain ⟨k, hk, rfl⟩ := List.getElem_of_mem hp
  exact h k hk
set_option maxRecDepth 100000 in
set_option maxHeartbeats 4000000 in
theorem indexFns_any (b : Brd) (ps : List Ply) (n bb : Nat) (a : Option Addr) (cap : Nat) (w : World) (hb0 : b.Good n) (hs : ∀ p ∈ ps, p.word.size ≤ 1048576) (hl : ps.length ≤ 9223372036854775807) (hE : CEnv w) (hg : BAt w bb 0 b) (hm : SliceAt w 4 Ply.enc a ps) :
    Calls Tryz.prog 243 #[.slice a ps.length cap, .func (.func 180) #[] #[.pointer (some ⟨bb, 0, none⟩)]] w fun e w' => (∃ r : Int, e = .returned (.int .i64 r) ∧ ((0 ≤ r ∧ allPlays b ps = false) ∨ (r = -1 ∧ allPlays b ps = true))) ∧ Below w.heap.size w w' := by
  have HSF : Hid (∀ k (hk : k < ps.length) W, CEnv W → BAt W bb 0 b → Calls Tryz.prog 180 #[.agg #[.int .i64 ps[k].row, .int .i64 ps[k].col, .bool ps[k].down, .string ps[k].word], .pointer (some ⟨bb, 0, none⟩)] W fun e w' => e = .returned (.bool (!b.okPlay ps[k])) ∧ Below W.heap.size W w') := Lib.hid (fun k hk W h h2 => scorFn_any b ps[k] n bb W hb0 (hs _ (List.getElem_mem hk)) h h2)
  have HM := Lib.hid hm
  have HE := Lib.hid hE
  have HG := Lib.hid hg
  have HN := Lib.hid (fun k (hk : k < ps.length) h => plays_no (b := b) (ps := ps) hk h)
  have HY := Lib.hid (fun h => plays_yes (b := b) (ps := ps) h)
  have hb : Below w.heap.size w w := Below.refl _ _
  clear hb0 hs hE hg hm
  go_enter Tryz.func243, Tryz.ntmps243
  go_upto_region 2 with fail
  go_loopw [8] (fun iv wr => ∃ k : Nat, k ≤ ps.length ∧ iv = .int .i64 k ∧ Hid (∀ j (h : j < ps.length), j < k → b.okPlay ps[j] = true) ∧ Hid (BAt wr bb 0 b) ∧ Below w.heap.size w wr) (fun iv _ => ps.length - (intOf iv).toNat)
  case atStart => exact ⟨0, Nat.zero_le _, rfl, Lib.hid (fun j _ h => absurd h (Nat.not_lt_zero _)), HG, hb⟩
  case round =>
    clear HG hb
    obtain ⟨k, hk, rfl, HP, HG, hb⟩ := hrel
    by_cases hk2 : k < ps.length
    · obtain ⟨b', o', rfl, c1⟩ := ply_cells HM.out hk2
      have c10 := cell_kept (c1 0 _ rfl) hb
      have c11 := cell_kept (c1 1 _ rfl) hb
      have c12 := cell_kept (c1 2 _ rfl) hb
      have c13 := cell_kept (c1 3 _ rfl) hb
      rw [Nat.add_zero] at c10
      have hk0 : (0 : Int) ≤ (k : Int) := by omega
      have hk3 : (k : Int) < (ps.length : Int) := by omega
      have HC := Lib.hid (HSF.out k hk2)
      have HNk := Lib.hid (HN.out k hk2)
      have HPk := Lib.hid (fun h : b.okPlay ps[k] = true => (fun j (hj : j < ps.length) (hjk : j < k + 1) => (by
        by_cases e : j = k
        · subst e; exact h
        · exact HP.out j hj (by omega) : b.okPlay ps[j] = true)))
      clear c1 HSF HN HP
      generalize ps[k] = pk at *
      generalize hv : b.okPlay pk = v at *
      clear hv
      go_wp2_with fail
      refine (HC.out _ (HE.out.kept hb) HG.out).mono ?_
      rintro e w3 ⟨rfl, hd⟩
      replace hb := hb.trans (hd.mono hb.size)
      replace HG := Lib.hid (HG.out.kept hd)
      clear hd
      clear c10 c11 c12 c13 HC
      cases v with
      | false =>
        go_wp2
        go_ret
        exact ⟨⟨k, rfl, .inl ⟨by omega, HNk.out (by trivial)⟩⟩, hb⟩
      | true =>
        go_wp2
        go_roundw
        case rel => exact ⟨k + 1, by omega, by go_num, Lib.hid (HPk.out (by trivial)), HG, hb⟩
        case measure => simp [intOf]; omega
    · obtain rfl : k = ps.length := by omega
      have HY2 := Lib.hid (HY.out (fun j hj => HP.out j hj hj))
      clear HP HY HN HSF
      go_wp2
      go_ret
      exact ⟨⟨-1, rfl, .inr ⟨rfl, HY2.out⟩⟩, hb⟩
set_option maxHeartbeats 1000000 in
theorem containsFns_any (b : Brd) (ps : List Ply) (n bb : Nat) (a : Option Addr) (cap : Nat) (w : World) (hb0 : b.Good n) (hs : ∀ p ∈ ps, p.word.size ≤ 1048576) (hl : ps.length ≤ 9223372036854775807) (hE : CEnv w) (hg : BAt w bb 0 b) (hm : SliceAt w 4 Ply.enc a ps) :
    Calls Tryz.prog 179 #[.slice a ps.length cap, .func (.func 180) #[] #[.pointer (some ⟨bb, 0, none⟩)]] w fun e w' => e = .returned (.bool (!allPlays b ps)) ∧ Below w.heap.size w w' := by
  have HIF := Lib.hid (indexFns_any b ps n bb a cap w hb0 hs hl hE hg hm)
  clear hb0 hs hE hg hm
  generalize allPlays b ps = v at *
  go_enter Tryz.func179, Tryz.ntmps179
  go_wp2_with fail
  refine (HIF.out).mono ?_
  rintro e w2 ⟨⟨r, rfl, hr⟩, hd⟩
  clear HIF
  rcases hr with ⟨h1, rfl⟩ | ⟨rfl, rfl⟩
  · go_wp2
    go_ret
    exact ⟨rfl, hd⟩
  · go_wp2
    go_ret
    exact ⟨rfl, hd⟩
end Go.Proofs.YtjdcdhhbgijaoaaGreatDoor
