/- Contracts: the program's transposed board, and the words on a board. For valid boards; internal/bytealg's MaxLen is an int (EnvL). -/
import Derived.Test.YtjdcdhhbgijaoaaGreatDoorWoA
import Derived.Test.YtjdcdhhbgijaoaaGreatDoorSplI
import Derived.Test.YtjdcdhhbgijaoaaGreatDoorFpS
import Derived.Deep.AppendLies
import Derived.Deep.DeepCutAuto
namespace Go.Proofs.YtjdcdhhbgijaoaaGreatDoor
open Go.ChangeShapes Go.WideShapes Go.ChangeAt Go.RowKit Go.Sort

set_option maxRecDepth 100000 in
set_option maxHeartbeats 4000000 in
theorem transpose_any (b : Brd) (n : Nat) (w : World) (hb0 : b.Good n) :
    Calls Tryz.prog 78 #[.agg #[.int .i64 b.size, .string b.premium, .string b.cells]] w fun e w' => e = .returned (.agg #[.int .i64 b.turn.size, .string b.turn.premium, .string b.turn.cells]) ∧ Below w.heap.size w w' := by
  obtain ⟨tn, htn⟩ : ∃ tn : ByteArray → ByteArray, ∀ s, tn s = mkB (turnB n s.data.toList) := ⟨_, fun _ => rfl⟩
  have hnn : b.size.toNat = n := by rw [hb0.size]; simp
  have HT : Hid (∀ s W, s.size = n * n → Calls Tryz.prog 172 #[.string s, .int .i64 n] W fun e w' => e = .returned (.string (tn s)) ∧ Below W.heap.size W w') := Lib.hid (fun s W hs => by
    rw [htn]
    exact transposed_any s n W hb0.lo hb0.hi hs)
  have HR : Hid (Ending.returned (.agg #[.int .i64 b.turn.size, .string b.turn.premium, .string b.turn.cells]) = .returned (.agg #[.int .i64 n, .string (tn b.premium), .string (tn b.cells)])) := Lib.hid (by
    rw [htn, htn]
    unfold Brd.turn
    rw [hnn, hb0.size])
  rw [HR.out, hb0.size]
  have hp := Lib.hid hb0.prem
  have hc := Lib.hid hb0.cells
  clear HR htn hnn hb0
  obtain ⟨w1, hw1⟩ : ∃ w1, w1 = (w.alloc (.cells #[.int .i64 n, .string b.premium, .string b.cells] 25)).alloc (.cells #[.int .i64 0, .string ⟨#[]⟩, .string ⟨#[]⟩] 25) := ⟨_, rfl⟩
  have hx0 : Below w.heap.size w w1 := by rw [hw1]; exact ((Below.refl _ _).alloc (Nat.le_refl _) _).alloc (by simp) _
  have VB : Hid (VarAt w1 w.heap.size 25 [.int .i64 n, .string b.premium, .string b.cells]) := by
    rw [hw1]
    exact Lib.hid ((VarAt.new w 25 [.int .i64 n, .string b.premium, .string b.cells]).kept ((Below.refl _ _).alloc (Nat.le_refl _) _))
  have V0 : Hid (VarAt w1 (w.heap.size + 1) 25 [.int .i64 0, .string ⟨#[]⟩, .string ⟨#[]⟩]) := by
    rw [hw1]
    have := VarAt.new (w.alloc (.cells #[.int .i64 n, .string b.premium, .string b.cells] 25)) 25 [.int .i64 0, .string ⟨#[]⟩, .string ⟨#[]⟩]
    simp only [World.size_alloc] at this
    exact Lib.hid this
  have HW1 := Lib.hid hw1
  clear hw1
  go_enter Tryz.func78, Tryz.ntmps78
  go_upto_region 1 with fail
  rw [← HW1.out]
  clear HW1
  have hk := hx0.trans ((Below.refl w1.heap.size w1).drew.mono hx0.size)
  have hk1 : Below w1.heap.size w1 w1.drew := (Below.refl _ _).drew
  have kv := Lib.hid (V0.out.kept hk1)
  have kg := Lib.hid (VB.out.kept hk1)
  clear V0 VB hk1 hx0
  go_region_held3 (fun w' => w'.cell? ⟨w.heap.size, 0, none⟩ = some (.int .i64 n) ∧ w'.cell? ⟨w.heap.size, 1, none⟩ = some (.string b.premium) ∧ w'.cell? ⟨w.heap.size, 2, none⟩ = some (.string b.cells))
    (first | exact ⟨kg.out.cell (i := 0) rfl, kg.out.cell (i := 1) rfl, kg.out.cell (i := 2) rfl⟩ | exact ⟨set3_cell (by omega) (kg.out.cell (i := 0) rfl), set3_cell (by omega) (kg.out.cell (i := 1) rfl), set3_cell (by omega) (kg.out.cell (i := 2) rfl)⟩)
    ((go_at_call 172; refine (HT.out _ _ (by first | exact hp.out | exact hc.out)).mono ?_; rintro e wq ⟨rfl, hdq⟩; replace kv := Lib.hid (kv.out.kept hdq); replace kg := Lib.hid (kg.out.kept hdq); replace hk := hk.trans (hdq.mono hk.size); clear hdq; (try clear q0 q1 q2 p0 p1 p2); have q0 := kv.out.cell (i := 0) rfl; have q1 := kv.out.cell (i := 1) rfl; have q2 := kv.out.cell (i := 2) rfl; have p0 := kv.out.free 0; have p1 := kv.out.free 1; have p2 := kv.out.free 2))
  all_goals
    obtain ⟨o0, k0⟩ := kv.out.set 0 (.int .i64 n)
    obtain ⟨o1, k1⟩ := o0.set 1 (.string (tn b.premium))
    obtain ⟨o2, k2⟩ := o1.set 2 (.string (tn b.cells))
    have GG := grownBy_trans (grownBy_trans k0 k1) k2
    have hb9 := hk.grown GG hk.size (fun q h => by cases h; omega)
    have e0 := o2.cell (i := 0) (v := .int .i64 n) rfl
    have e1 := o2.cell (i := 1) (v := .string (tn b.premium)) rfl
    have e2 := o2.cell (i := 2) (v := .string (tn b.cells)) rfl
    clear o0 o1 o2 k0 k1 k2 GG
    go_wp2
    refine bodyPost_ret (v := .agg #[.int .i64 n, .string (tn b.premium), .string (tn b.cells)]) (by simp [results, Tryz.results78, go_sem, e0, e1, e2]) rfl ?_
    exact ⟨rfl, hb9⟩
/-- texts in a row of the call's own, and the code 0 -/
def OnPost (L : List ByteArray) (w : World) (e : Ending) (w' : World) : Prop :=
  ∃ g cap, e = .returned (.tuple #[.slice (some ⟨g, 0, none⟩) L.length cap, .int .i64 0]) ∧ w'.ownsRow w.heap.size 9 1 (.slice (some ⟨g, 0, none⟩) L.length cap) L.length (L.flatMap Tx.enc) ∧ Below w.heap.size w w'
/-- two boards, one behind the other -/
def twoB (n : Nat) (x y : Brd) : List Value := [.int .i64 n, .string x.premium, .string x.cells, .int .i64 n, .string y.premium, .string y.cells]
set_option maxRecDepth 100000 in
set_option maxHeartbeats 8000000 in
theorem WordsOn_any (b : Brd) (n : Nat) (w : World) (hg : b.Good n) (hf : b.fit) (hE : EnvL w) :
    Calls Tryz.prog 52 #[.agg #[.int .i64 b.size, .string b.premium, .string b.cells]] w (OnPost b.wordsOn w) := by
  obtain ⟨i0, hi0, hi1, hi2, hi3⟩ := info_parts infoTx
  obtain ⟨W, hW⟩ : ∃ W : Nat → List ByteArray, ∀ k, W k = ([rowsW b.cells n n, rowsW b.turn.cells n n].take k).flatten := ⟨_, fun _ => rfl⟩
  have hW0 : W 0 = [] := by rw [hW]; rfl
  have HW2 : Hid (W 2 = b.wordsOn) := Lib.hid (by rw [hW, hg.words_rows]; simp)
  have HX : Hid (∀ k, k < 2 → ∃ x : Brd, x.Good n ∧ W (k + 1) = W k ++ rowsW x.cells n n ∧ (twoB n b b.turn)[k * 3]? = some (.int .i64 n) ∧ (twoB n b b.turn)[k * 3 + 1]? = some (.string x.premium) ∧ (twoB n b b.turn)[k * 3 + 2]? = some (.string x.cells)) := Lib.hid (fun k hk => by
    rcases (show k = 0 ∨ k = 1 by omega) with rfl | rfl
    · exact ⟨b, hg, by rw [hW, hW]; simp, rfl, rfl, rfl⟩
    · exact ⟨b.turn, hg.turn, by rw [hW, hW]; simp, rfl, rfl, rfl⟩)
  have HTP : Hid (∀ U, Calls Tryz.prog 78 #[.agg #[.int .i64 n, .string b.premium, .string b.cells]] U fun e w' => e = .returned (.agg #[.int .i64 n, .string b.turn.premium, .string b.turn.cells]) ∧ Below U.heap.size U w') := Lib.hid (fun U => by
    have := transpose_any b n U hg
    rwa [show b.turn.size = b.size from rfl, hg.size] at this)
  have HVB : Hid (∀ U, Calls Tryz.prog 70 #[.agg #[.int .i64 n, .string b.premium, .string b.cells]] U fun e w' => e = .returned (.bool true) ∧ Below U.heap.size U w') := Lib.hid (fun U => by
    have := ValidBoard_any b U hf
    rwa [hg.ok, hg.size] at this)
  have hn15 := hg.hi
  have HE := Lib.hid hE
  rw [hg.size]
  have hb : Below w.heap.size w (w.alloc (.cells #[.int .i64 n, .string b.premium, .string b.cells] 25)) := (Below.refl _ _).alloc (Nat.le_refl _) _
  have VB := Lib.hid (VarAt.new w 25 [.int .i64 n, .string b.premium, .string b.cells])
  clear hW hg hE hf
  unfold OnPost
  rw [← HW2.out]
  clear HW2
  go_enter Tryz.func52, Tryz.ntmps52
  go_upto_region 1 with fail
  generalize w.alloc (.cells #[.int .i64 n, .string b.premium, .string b.cells] 25) = w1 at *
  have c0 := VB.out.cell (i := 0) rfl
  have c1 := VB.out.cell (i := 1) rfl
  have c2 := VB.out.cell (i := 2) rfl
  go_wp2_with fail
  refine (HVB.out _).mono ?_
  rintro e w2 ⟨rfl, hd⟩
  replace VB := Lib.hid (VB.out.kept hd)
  replace hb := hb.trans (hd.mono hb.size)
  clear hd c0 c1 c2 HVB
  have hx : Below w2.heap.size w2 (w2.alloc (.cells #[] 9)) := (Below.refl _ _).alloc (Nat.le_refl _) _
  have hlt := VB.out.lt
  have HO : Hid ((w2.alloc (.cells #[] 9)).ownsRow w.heap.size 9 1 (.slice (some ⟨w2.heap.size, 0, none⟩) 0 0) 0 ((W 0).flatMap Tx.enc)) := Lib.hid (by rw [hW0]; exact own_mono (own_empty w2 9) (Nat.le_of_lt hlt))
  replace VB := Lib.hid (VB.out.kept hx)
  replace hb := hb.trans (hx.mono hb.size)
  clear hx hlt
  go_upto_region 4 with fail
  generalize w2.alloc (.cells #[] 9) = w3 at *
  generalize w2.heap.size = g0 at *
  go_cut [18, 19, 20] (fun v18 v19 v20 wx => ∃ B1 : Nat, v18 = .slice (some ⟨B1, 0, none⟩) 2 2 ∧ v19 = .int .i64 2 ∧ v20 = .int .i64 0 ∧ g0 ≠ B1 ∧ Hid (VarAt wx B1 25 (twoB n b b.turn)) ∧ Hid (wx.ownsRow w.heap.size 9 1 (.slice (some ⟨g0, 0, none⟩) 0 0) 0 ((W 0).flatMap Tx.enc)) ∧ Below w.heap.size w wx)
  case first =>
    have hk1 : Below w3.heap.size w3 w3.drew := (Below.refl _ _).drew
    replace VB := Lib.hid (VB.out.kept hk1)
    replace HO := Lib.hid (own_below HO.out hk1)
    replace hb := hb.trans (hk1.mono hb.size)
    clear hk1
    go_region_held3 (fun w' => w'.cell? ⟨w.heap.size, 0, none⟩ = some (.int .i64 n) ∧ w'.cell? ⟨w.heap.size, 1, none⟩ = some (.string b.premium) ∧ w'.cell? ⟨w.heap.size, 2, none⟩ = some (.string b.cells))
      (first | exact ⟨VB.out.cell (i := 0) rfl, VB.out.cell (i := 1) rfl, VB.out.cell (i := 2) rfl⟩ | exact ⟨cell_alloc (VB.out.cell (i := 0) rfl) _, cell_alloc (VB.out.cell (i := 1) rfl) _, cell_alloc (VB.out.cell (i := 2) rfl) _⟩)
      ((go_at_call 78; refine (HTP.out _).mono ?_; rintro e wq ⟨rfl, hdq⟩; replace VB := Lib.hid (VB.out.kept hdq); replace HO := Lib.hid (own_below HO.out hdq); replace hb := hb.trans (hdq.mono hb.size); clear hdq))
    all_goals
      (have hx : Below wq.heap.size wq (wq.alloc (.cells (twoB n b b.turn).toArray 25)) := (Below.refl _ _).alloc (Nat.le_refl _) _
       have hz := (HO.out.lt g0 rfl).2
       go_wp2_with fail
       go_meet
       exact ⟨wq.heap.size, rfl, rfl, rfl, by omega, Lib.hid (VarAt.new wq 25 (twoB n b b.turn)), Lib.hid (own_below HO.out hx), hb.trans (hx.mono hb.size)⟩)
  case rest =>
    clear VB HO hb HTP
    obtain ⟨B1, rfl, rfl, rfl, hgB, V1, HO, hb⟩ := hcut
    generalize wc = w4 at *
    generalize twoB n b b.turn = TB at *
    go_wp2_with fail
    go_loopw [4, 20] (fun ov iv wr => ∃ (k m g cap : Nat), k ≤ 2 ∧ iv = .int .i64 k ∧ ov = .slice (some ⟨g, 0, none⟩) m cap ∧ (W k).length = m ∧ m ≤ 240 * k ∧ g ≠ B1 ∧ Hid (wr.ownsRow w.heap.size 9 1 (.slice (some ⟨g, 0, none⟩) m cap) m ((W k).flatMap Tx.enc)) ∧ Hid (VarAt wr B1 25 TB) ∧ Below w.heap.size w wr) (fun _ iv _ => 2 - (intOf iv).toNat)
    case atStart => exact ⟨0, 0, g0, 0, by omega, rfl, rfl, by rw [hW0]; rfl, by omega, hgB, HO, V1, hb⟩
    case round =>
      clear HO V1 hb hgB hW0
      obtain ⟨k, m, g, cap, hk, rfl, rfl, hL, hm, hgB, HO, V1, hb⟩ := hrel
      by_cases hlt : k < 2
      · obtain ⟨x, hxg, hWN, e0, e1, e2⟩ := HX.out k hlt
        have c0 := V1.out.cell e0
        have c1 := V1.out.cell e1
        have c2 := V1.out.cell e2
        have HRS : Hid (∀ U, Calls Tryz.prog 130 #[.agg #[.int .i64 n, .string x.premium, .string x.cells], .string x.cells] U (TextsPost U (rowsB x.cells n))) := Lib.hid (fun U => by
          have := rows_any x n x.cells U hxg.size hn15 hxg.cells
          rwa [hxg.size] at this)
        have HPT := Lib.hid (fun r (h : r < n) y (hy : y ∈ partsB (lineB x.cells n r)) => hxg.part_ok h hy)
        have HWN := Lib.hid hWN
        have HRN := Lib.hid (fun r => rowsW_next x.cells n r)
        have HRZ : Hid (rowsW x.cells n 0 = []) := Lib.hid rfl
        have HLZ : Hid (∀ r, r < n → (lineB x.cells n r).size = n) := Lib.hid (fun r h => lineB_size hxg.cells h)
        have hx : Below wr.heap.size wr (wr.alloc (.cells #[.int .i64 n, .string x.premium, .string x.cells] 25)) := (Below.refl _ _).alloc (Nat.le_refl _) _
        have V6 := Lib.hid (VarAt.new wr 25 [.int .i64 n, .string x.premium, .string x.cells])
        clear hWN hxg e0 e1 e2 HX
        go_upto_region 7 with fail
        clear c0 c1 c2
        replace HO := Lib.hid (own_below HO.out hx)
        replace V1 := Lib.hid (V1.out.kept hx)
        replace hb := hb.trans ((hx).mono hb.size)
        clear hx
        have c0 := V6.out.cell (i := 0) rfl
        have c1 := V6.out.cell (i := 1) rfl
        have c2 := V6.out.cell (i := 2) rfl
        generalize wr.alloc (.cells #[.int .i64 n, .string x.premium, .string x.cells] 25) = w5 at *
        generalize wr.heap.size = B6 at *
        go_wp2_with fail
        refine (HRS.out _).mono ?_
        rintro e w6 ⟨gR, capR, rfl, hrr, hd⟩
        have hz1 := V1.out.lt
        have hz2 := (HO.out.lt g rfl).2
        have hz3 := (hrr.lt gR rfl).1
        have hRB : gR ≠ B1 := by omega
        have hgR : g ≠ gR := by omega
        replace HO := Lib.hid (own_below HO.out hd)
        replace V1 := Lib.hid (V1.out.kept hd)
        replace hb := hb.trans ((hd).mono hb.size)
        have HR := Lib.hid hrr
        clear hd hrr hz1 hz2 hz3 c0 c1 c2 HRS V6
        have HRL := rowsB_len x.cells n
        rw [HRL] at HR ⊢
        have HRA : Hid (∀ (U : World) (hU : Hid (U.ownsRow w5.heap.size 9 1 (.slice (some ⟨gR, 0, none⟩) n capR) n ((rowsB x.cells n).flatMap Tx.enc))) r, r < n → U.cell? ⟨gR, r, none⟩ = some (.string (lineB x.cells n r))) := Lib.hid (fun U hU r hr => by
          have := own_at hU.out HRL.symm (j := r) (by rw [HRL]; exact hr)
          rw [this]
          simp only [rowsB, List.getElem_map, List.getElem_range])
        clear HRL
        generalize rowsB x.cells n = RB at *
        generalize w5.heap.size = base5 at *
        go_wp2_with fail
        go_loopw [4, 29] (fun ov iv wr => ∃ (r m g cap : Nat), r ≤ n ∧ iv = .int .i64 r ∧ ov = .slice (some ⟨g, 0, none⟩) m cap ∧ (W k ++ rowsW x.cells n r).length = m ∧ m ≤ 240 * k + 16 * r ∧ g ≠ B1 ∧ g ≠ gR ∧ Hid (wr.ownsRow w.heap.size 9 1 (.slice (some ⟨g, 0, none⟩) m cap) m ((W k ++ rowsW x.cells n r).flatMap Tx.enc)) ∧ Hid (VarAt wr B1 25 TB) ∧ Hid (wr.ownsRow base5 9 1 (.slice (some ⟨gR, 0, none⟩) n capR) n (RB.flatMap Tx.enc)) ∧ Below w.heap.size w wr) (fun _ iv _ => n - (intOf iv).toNat)
        case atStart => exact ⟨0, m, g, cap, Nat.zero_le _, rfl, rfl, by rw [HRZ.out, List.append_nil]; exact hL, by omega, hgB, hgR, by rw [HRZ.out, List.append_nil]; exact HO, V1, HR, hb⟩
        case round =>
          clear HO V1 HR hb hgB hgR hL hm
          obtain ⟨r, m, g, cap, hr, rfl, rfl, hL, hm, hgB, hgR, HO, V1, HR, hb⟩ := hrel
          by_cases hrn : r < n
          · have cr := HRA.out _ HR r hrn
            have hlz := HLZ.out r hrn
            have HPB : Hid ((partsB (lineB x.cells n r)).length ≤ 16) := Lib.hid (by have := partsB_len (lineB x.cells n r); omega)
            have HPR : Hid (∀ U, EnvL U → Calls Tryz.prog 131 #[.string (lineB x.cells n r), .string ⟨#[46]⟩] U (TextsPost U (partsB (lineB x.cells n r)))) := Lib.hid (fun U h => splitM_any (lineB x.cells n r) 46 U h (by omega))
            have HLW : Hid (∀ j (h : j < (partsB (lineB x.cells n r)).length) U, Calls Tryz.prog 132 #[.string (partsB (lineB x.cells n r))[j]] U fun e w' => e = .returned (.string (lowB (partsB (lineB x.cells n r))[j])) ∧ Below U.heap.size U w') := Lib.hid (fun j h U => by
              obtain ⟨k1, k2⟩ := HPT.out r hrn _ (List.getElem_mem h)
              exact lower_ascii _ U (by omega) k2)
            have HNR := Lib.hid (HRN.out r)
            clear HPT HRN HLZ HRZ hlz
            generalize lineB x.cells n r = LB at *
            generalize hP : partsB LB = P at *
            go_wp2_with fail
            refine (HPR.out _ (HE.out.kept hb)).mono ?_
            rintro e w7 ⟨gP, capP, rfl, hpp, hd⟩
            have hz1 := V1.out.lt
            have hz2 := (HO.out.lt g rfl).2
            have hz3 := (hpp.lt gP rfl).1
            have hz4 := (HR.out.lt gR rfl).2
            have hPB : gP ≠ B1 := by omega
            have hPR : gP ≠ gR := by omega
            have hgP : g ≠ gP := by omega
            replace HR := Lib.hid (own_below HR.out hd)
            replace HO := Lib.hid (own_below HO.out hd)
            replace V1 := Lib.hid (V1.out.kept hd)
            replace hb := hb.trans ((hd).mono hb.size)
            have HP := Lib.hid hpp
            clear hd hpp hz1 hz2 hz3 hz4 cr HPR
            generalize wr.heap.size = base6 at *
            go_wp2_with fail
            have HPZ : Hid (keepB (P.take 0) = []) := Lib.hid rfl
            have hPl := HPB.out
            go_loopw [4, 36] (fun ov iv wr => ∃ (j m g cap : Nat), j ≤ P.length ∧ iv = .int .i64 j ∧ ov = .slice (some ⟨g, 0, none⟩) m cap ∧ (W k ++ rowsW x.cells n r ++ keepB (P.take j)).length = m ∧ m ≤ 240 * k + 16 * r + j ∧ g ≠ B1 ∧ g ≠ gR ∧ g ≠ gP ∧ Hid (wr.ownsRow w.heap.size 9 1 (.slice (some ⟨g, 0, none⟩) m cap) m ((W k ++ rowsW x.cells n r ++ keepB (P.take j)).flatMap Tx.enc)) ∧ Hid (VarAt wr B1 25 TB) ∧ Hid (wr.ownsRow base5 9 1 (.slice (some ⟨gR, 0, none⟩) n capR) n (RB.flatMap Tx.enc)) ∧ Hid (wr.ownsRow base6 9 1 (.slice (some ⟨gP, 0, none⟩) P.length capP) P.length (P.flatMap Tx.enc)) ∧ Below w.heap.size w wr) (fun _ iv _ => P.length - (intOf iv).toNat)
            case atStart => exact ⟨0, m, g, cap, Nat.zero_le _, rfl, rfl, by rw [HPZ.out, List.append_nil]; exact hL, by omega, hgB, hgR, hgP, by rw [HPZ.out, List.append_nil]; exact HO, V1, HR, HP, hb⟩
            case round =>
              clear HO V1 HR HP hb hgB hgR hgP hL hm HPZ
              obtain ⟨j, m, g, cap, hj, rfl, rfl, hL, hm, hgB, hgR, hgP, HO, V1, HR, HP, hb⟩ := hrel
              by_cases hjl : j < P.length
              · have cj := own_at HP.out rfl hjl
                have HLJ := Lib.hid (HLW.out j hjl)
                have HY := Lib.hid (fun h => keepB_yes hjl h)
                have HN := Lib.hid (fun h => keepB_no hjl h)
                have hjI : (j : Int) < (P.length : Int) := by omega
                clear HLW HNR
                generalize P[j] = pj at *
                by_cases h2 : 2 ≤ pj.size
                · have h2I : (2 : Int) ≤ (pj.size : Int) := by omega
                  have HK := Lib.hid (HY.out h2)
                  clear HY HN
                  go_wp2_with fail
                  refine (HLJ.out _).mono ?_
                  rintro e w8 ⟨rfl, hd⟩
                  replace HP := Lib.hid (own_below HP.out hd)
                  replace HR := Lib.hid (own_below HR.out hd)
                  replace HO := Lib.hid (own_below HO.out hd)
                  replace V1 := Lib.hid (V1.out.kept hd)
                  replace hb := hb.trans ((hd).mono hb.size)
                  clear hd cj HLJ
                  generalize lowB pj = lp at *
                  have hx : Below w8.heap.size w8 (w8.alloc (.cells #[.string lp] 9)) := (Below.refl _ _).alloc (Nat.le_refl _) _
                  have KN := Lib.hid (new_tx w8 lp 9)
                  have hz1 := V1.out.lt
                  have hz2 := (HR.out.lt gR rfl).2
                  have hz3 := (HP.out.lt gP rfl).2
                  have hz4 := hb.size
                  replace HP := Lib.hid (own_below HP.out hx)
                  replace HR := Lib.hid (own_below HR.out hx)
                  replace HO := Lib.hid (own_below HO.out hx)
                  replace V1 := Lib.hid (V1.out.kept hx)
                  replace hb := hb.trans ((hx).mono hb.size)
                  clear hx
                  go_wp2_with (at_builtin; go_must (refine wpList_append_lies _ rfl (.tmp 43) (.tmp 46) 26 rfl w.heap.size 9 i0 _ 1 16 Tryz.underlying26 hi0 hi1 hi2 hi3 rfl (by decide) _ m ((W k ++ rowsW x.cells n r ++ keepB (P.take j)).flatMap Tx.enc) (by rfl) HO.out ⟨w8.heap.size, 0, none⟩ 1 1 (Tx.enc lp) (by rfl) rfl KN.out (tx_one _) (by decide) ?c1 ?c2 ?c3 _ rfl ?_))
                  case c1 => unfold maxLen; omega
                  case c2 => omega
                  case c3 => (first | omega | (simp only [World.size_alloc]; omega))
                  intro g7 cap7 w9 hown hgr hwh hlt7
                  have hne : g7 ≠ B1 ∧ g7 ≠ gR ∧ g7 ≠ gP := by
                    rcases hwh with h | h
                    · have e9 : g = g7 := Option.some.inj h
                      rw [← e9]
                      exact ⟨hgB, hgR, hgP⟩
                    · try simp only [World.size_alloc] at h
                      exact ⟨by omega, by omega, by omega⟩
                  have V1' := Lib.hid (V1.out.grown hgr (by intro e; exact hgB (Option.some.inj e).symm))
                  have HR' := Lib.hid (World.ownsRow.kept HR.out hgr (.inr (by intro e; exact hgR (Option.some.inj e).symm)))
                  have HP' := Lib.hid (World.ownsRow.kept HP.out hgr (.inr (by intro e; exact hgP (Option.some.inj e).symm)))
                  have hb' := hb.grown hgr hb.size (fun q e => (HO.out.lt q e).1)
                  have HL2 : Hid ((W k ++ rowsW x.cells n r ++ keepB (P.take (j + 1))).length = m + 1) := Lib.hid (by rw [HK.out, ← List.append_assoc, List.length_append, hL]; rfl)
                  have HO' : Hid (w9.ownsRow w.heap.size 9 1 (.slice (some ⟨g7, 0, none⟩) (m + 1) cap7) (m + 1) ((W k ++ rowsW x.cells n r ++ keepB (P.take (j + 1))).flatMap Tx.enc)) := Lib.hid (by rw [HK.out]; first | exact hown | simpa using hown)
                  clear hown hgr hwh hlt7 KN HO V1 HR HP hb HK hz1 hz2 hz3 hz4
                  go_wp2
                  go_roundw
                  case rel => exact ⟨j + 1, m + 1, g7, cap7, by omega, by go_num, rfl, HL2.out, by omega, hne.1, hne.2.1, hne.2.2, HO', V1', HR', HP', hb'⟩
                  case measure => simp [intOf]; omega
                · have h2I : ¬ (2 : Int) ≤ (pj.size : Int) := by omega
                  have HK := Lib.hid (HN.out h2)
                  rw [← HK.out] at hL HO
                  clear HY HN HK HLJ
                  go_wp2
                  go_roundw
                  case rel => exact ⟨j + 1, m, g, cap, by omega, by go_num, rfl, hL, by omega, hgB, hgR, hgP, HO, V1, HR, HP, hb⟩
                  case measure => simp [intOf]; omega
              · obtain rfl : j = P.length := by omega
                rw [List.take_length, List.append_assoc, ← HNR.out] at hL HO
                clear HLW HP
                go_wp2
                go_roundw
                case rel => exact ⟨r + 1, m, g, cap, by omega, by go_num, rfl, hL, by omega, hgB, hgR, HO, V1, HR, hb⟩
                case measure => simp [intOf]; omega
          · obtain rfl : r = n := by omega
            rw [← HWN.out] at hL HO
            go_wp2
            go_roundw
            case rel => exact ⟨k + 1, m, g, cap, by omega, by go_num, rfl, hL, by omega, hgB, HO, V1, hb⟩
            case measure => simp [intOf]; omega
      · obtain rfl : k = 2 := by omega
        clear HX V1
        rw [← hL] at HO ⊢
        go_wp2
        go_ret2
        exact ⟨g, cap, rfl, HO.out, hb⟩
end Go.Proofs.YtjdcdhhbgijaoaaGreatDoor
