/- Contracts: where a scored play lies in a list. No condition but that lengths fit an int. -/
import Derived.Test.YtofcampipllegaaGreatDoorBpC
namespace Go.Proofs.YtofcampipllegaaGreatDoor
open Go.ChangeShapes Go.WideShapes Go.ChangeAt Go.RowKit Go.Sort

theorem uMove : (Tryz.prog.fieldsOf 106).toList.map (fun f => (f.name, f.type, f.offset)) = [("Play", 61, 0), ("Score", 2, 4)] := by kernel_rfl
/-- whether two scored plays are the same -/
def mvEqB (s t : Int) (a b : Ply) : Bool := ((a.row == b.row) && ((a.col == b.col) && ((a.down == b.down) && ((a.word.toList == b.word.toList) && true)))) && ((s == t) && true)
theorem mvEqB_iff {s t : Int} {a b : Ply} : mvEqB s t a b = true ↔ (s = t ∧ a = b) := by
  unfold mvEqB
  rw [str_dec]
  cases a
  cases b
  simp only [Bool.and_true, Bool.and_eq_true, beq_iff_eq, decide_eq_true_eq, Ply.mk.injEq]
  constructor
  · rintro ⟨⟨h1, h2, h3, h4⟩, h5⟩; exact ⟨h5, h1, h2, h3, h4⟩
  · rintro ⟨h5, h1, h2, h3, h4⟩; exact ⟨⟨h1, h2, h3, h4⟩, h5⟩
theorem eql_move (s t : Int) (a b : Ply) (w : World) :
    (binOp .eql 106 (.agg #[.int .i64 a.row, .int .i64 a.col, .bool a.down, .string a.word, .int .i64 s]) (.agg #[.int .i64 b.row, .int .i64 b.col, .bool b.down, .string b.word, .int .i64 t])).run Tryz.prog w = .ok (.bool (mvEqB s t a b)) w := by
  rw [run_eql_struct]
  have h1 : Tryz.prog.underlying 106 = some (.struct (Tryz.prog.fieldsOf 106)) := by kernel_rfl
  have h2 : Tryz.prog.stoodInHeld 106 = false := by kernel_rfl
  rw [run_equalIn_agg w 9999 106 _ _ h1 h2]
  have hu := uMove
  have key : (Op.eqFields 9999 #[.int .i64 a.row, .int .i64 a.col, .bool a.down, .string a.word, .int .i64 s] #[.int .i64 b.row, .int .i64 b.col, .bool b.down, .string b.word, .int .i64 t] (Tryz.prog.fieldsOf 106).toList).run Tryz.prog w = .ok (mvEqB s t a b) w := by
    match h : (Tryz.prog.fieldsOf 106).toList with
    | [f0, f1] =>
      rw [h] at hu
      simp only [List.map_cons, List.map_nil, List.cons.injEq, and_true] at hu
      obtain ⟨e0, e1⟩ := hu
      unfold mvEqB
      simp only [Prod.mk.injEq] at e0
      obtain ⟨n0, t0, o0⟩ := e0
      refine eqF_cons (by rw [n0]; decide) (a := .agg #[.int .i64 a.row, .int .i64 a.col, .bool a.down, .string a.word]) (b := .agg #[.int .i64 b.row, .int .i64 b.col, .bool b.down, .string b.word]) ?_ ?_ ?_ ?_
      · rw [t0, o0]; exact part_play _ 0 _ rfl w
      · rw [t0, o0]; exact part_play _ 0 _ rfl w
      · rw [t0]; exact equalIn_play 9997 a.row b.row a.col b.col a.down b.down a.word b.word w
      · exact eqF_int e1 (by decide) rfl rfl rfl
    | [] | [_] | _ :: _ :: _ :: _ => rw [h] at hu; simp at hu
  rw [key]
  rfl
set_option maxRecDepth 100000 in
set_option maxHeartbeats 4000000 in
theorem indexMove_any (ms : List Mv) (a : Option Addr) (cap : Nat) (s : Int) (p : Ply) (K : Nat) (w : World) (hm : SliceAt w 5 mvEnc a ms) (hK : K < ms.length) (hl : ms.length ≤ 9223372036854775807) (hs : mvS ms K = s) (hp : mvP ms K = p) (hno : ∀ j, j < K → ¬ (mvS ms j = s ∧ mvP ms j = p)) :
    Calls Tryz.prog 67 #[.slice a ms.length cap, .agg #[.int .i64 p.row, .int .i64 p.col, .bool p.down, .string p.word, .int .i64 s]] w fun e w' => e = .returned (.int .i64 (K : Nat)) ∧ Below w.heap.size w w' := by
  obtain ⟨b, o, rfl, _⟩ := mv_cells hm hK
  have HM := Lib.hid hm
  have HS := Lib.hid hs
  have HP := Lib.hid hp
  have HNO := Lib.hid hno
  have hb1 : Below w.heap.size w (w.alloc (.cells (mcells s p).toArray 106)) := (Below.refl _ _).alloc (Nat.le_refl _) _
  have VR := Lib.hid (VarAt.new w 106 (mcells s p))
  have HEQ : Hid (∀ s t x y W, (binOp .eql 106 (.agg (mcells s x).toArray) (.agg (mcells t y).toArray)).run Tryz.prog W = .ok (.bool (mvEqB s t x y)) W) := Lib.hid (fun s t x y W => eql_move s t x y W)
  have hgq : Tryz.prog.eqGuardType Tryz.prog.depth 106 = false := by kernel_rfl
  clear hm hs hp hno
  go_enter Tryz.func67, Tryz.ntmps67
  go_upto_region 2 with fail
  change Code.wp _ _ _ _ (w.alloc (.cells (mcells s p).toArray 106))
  generalize w.alloc (.cells (mcells s p).toArray 106) = w1 at *
  go_loopw [5, 8] (fun _ iv wr => ∃ (k : Nat), k ≤ K ∧ iv = .int .i64 k ∧ Hid (VarAt wr w.heap.size 106 (mcells s p)) ∧ Below w.heap.size w wr) (fun _ iv _ => ms.length - (intOf iv).toNat)
  case atStart => exact ⟨0, Nat.zero_le _, rfl, VR, hb1⟩
  case round =>
    clear VR hb1
    obtain ⟨k, hk, rfl, VR, hb⟩ := hrel
    have hk2 : k < ms.length := by omega
    obtain ⟨b', o', hbo, c1⟩ := mv_cells HM.out hk2
    cases hbo
    replace c1 := fun j v hv => cell_kept (c1 j v hv) hb
    have HC1 := Lib.hid c1
    clear c1
    have hk0 : (0 : Int) ≤ (k : Int) := by omega
    have hk3 : (k : Int) < (ms.length : Int) := by omega
    go_upto_region 4 with fail
    have hd : Below wr.heap.size wr wr.drew := (Below.refl _ _).drew
    replace HC1 := Lib.hid (fun j v hv => cell_kept (HC1.out j v hv) hd)
    replace hb := hb.trans (hd.mono hb.size)
    replace VR := Lib.hid (VR.out.kept hd)
    clear hd
    have c10 := HC1.out 0 _ rfl
    have c11 := HC1.out 1 _ rfl
    have c12 := HC1.out 2 _ rfl
    have c13 := HC1.out 3 _ rfl
    have c14 := HC1.out 4 _ rfl
    rw [Nat.add_zero] at c10
    have r0 := VR.out.cell (i := 0) rfl
    have r1 := VR.out.cell (i := 1) rfl
    have r2 := VR.out.cell (i := 2) rfl
    have r3 := VR.out.cell (i := 3) rfl
    have r4 := VR.out.cell (i := 4) rfl
    have hq := HEQ.out s (mvS ms k) p (mvP ms k)
    dsimp only [mcells] at hq
    refine wp_region_still_tail 5 (by kernel_rfl) (by kernel_rfl) ?_
    simp only [List.take_succ_cons, List.take_zero, List.drop_succ_cons, List.drop_zero]
    change wpStill _ _ wr.drew (fun a' => wpList _ _ _ _ a' wr.drew) _ _
    generalize wr.drew = wd at *
    iterate 5 still_step
    refine wpStill_nil ?_
    clear c10 c11 c12 c13 c14 r0 r1 r2 r3 r4
    by_cases hkK : k = K
    · have he : mvEqB s (mvS ms k) p (mvP ms k) = true := mvEqB_iff.2 ⟨by rw [hkK, HS.out], by rw [hkK, HP.out]⟩
      rw [he] at hq
      subst hkK
      clear he
      go_wp2
      go_ret
      exact ⟨rfl, hb⟩
    · have he : mvEqB s (mvS ms k) p (mvP ms k) = false := by
        rw [Bool.eq_false_iff]
        intro h
        obtain ⟨h1, h2⟩ := mvEqB_iff.1 h
        exact HNO.out k (by omega) ⟨h1.symm, h2.symm⟩
      rw [he] at hq
      clear he
      go_wp2
      go_roundw
      case rel => exact ⟨k + 1, by omega, by go_num, VR, hb⟩
      case measure => simp [intOf]; omega
end Go.Proofs.YtofcampipllegaaGreatDoor
