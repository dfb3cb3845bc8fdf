/- Steps of a region that draws its order (for a seat without games): an operation that may c · Contracts: the premiums that a play uses, the factor of its main word: both sides; two equ -/
import Derived.Test.YtjdcdhhbgijaoaaGreatDoorVar
import Derived.Deep.DeepMust
import Derived.Deep.MidRow
import Derived.Test.YtjdcdhhbgijaoaaGreatDoorFsA
import Derived.Test.YtjdcdhhbgijaoaaGreatDoorFpI
import Derived.Test.YtjdcdhhbgijaoaaGreatDoorFpF
namespace Go.Proofs.YtjdcdhhbgijaoaaGreatDoor
open Go.ChangeShapes Go.WideShapes Go.ChangeAt Go.RowKit Go.Sort

theorem wpAnyH_slot {P : Program} {md : Region.Mode} {ops : Array Oper} {Q : Exit → Act → World → Prop} {S : World → Prop} {i : Nat} {oi : Oper} (d : Nat) {v : Value} {fuel : Nat} {listed : Array Bool} {a : Act} {w : World} (hi : ops[i]? = some oi) (hd : oi.dst = some d)
    (hs : Region.noSelect ops = true) (hf : Region.free md ops listed i = true) (hr : (Region.ready md ops listed).contains i = true)
    (hQ : ∀ c a w, Q (.panic c) (a.put oi.dst v) w → Q (.panic c) a w) (hy : YieldsIf P ops S oi v a) (hS : S w)
    (h : wpAnyH P md ops Q S fuel (listed.setIfInBounds i true) { a with tmps := a.tmps.setIfInBounds d v } w) : wpAnyH P md ops Q S (fuel + 1) listed a w :=
  wpAnyH_take hi hs hf hr hQ hy hS (by rw [hd]; exact h)
theorem slotA {P : Program} {md : Region.Mode} {ops : Array Oper} {Q : Exit → Act → World → Prop} {S : World → Prop} {oi : Oper} {fuel : Nat} {listed : Array Bool} {a : Act} {w : World} (i d : Nat) (v : Value)
    (h : wpAnyH P md ops Q S fuel (listed.setIfInBounds i true) { a with tmps := a.tmps.setIfInBounds d v } w)
    (hi : ops[i]? = some oi := by exact rfl) (hd : oi.dst = some d := by exact rfl) (hs : Region.noSelect ops = true := by kernel_rfl) (hf : Region.free md ops listed i = true := by kernel_rfl) (hr : (Region.ready md ops listed).contains i = true := by kernel_rfl)
    (hQ : ∀ c a w, Q (.panic c) (a.put oi.dst v) w → Q (.panic c) a w := by exact fun _ _ _ h => h) (hy : YieldsIf P ops S oi v a := by exact Or.inl ⟨by rfl, fun w' _ => by go_simp⟩) (hS : S w := by assumption) : wpAnyH P md ops Q S (fuel + 1) listed a w :=
  wpAnyH_slot d hi hd hs hf hr hQ hy hS h
theorem S3 {α : Type} : (∀ (l : List α) (i : Nat) (x : α), l.toArray.setIfInBounds i x = (l.set i x).toArray) ∧ (∀ (y : α) (l : List α) (x : α), (y :: l).set 0 x = x :: l) ∧ ∀ (y : α) (l : List α) (n : Nat) (x : α), (y :: l).set (n + 1) x = y :: l.set n x :=
  ⟨fun l i x => List.setIfInBounds_toArray l i x, fun _ _ _ => rfl, fun _ _ _ _ => rfl⟩
end Go.Proofs.YtjdcdhhbgijaoaaGreatDoor
namespace Go.Proofs.YtjdcdhhbgijaoaaGreatDoor
open Go.ChangeShapes Go.WideShapes Go.ChangeAt Go.RowKit Go.Sort

/-- the premiums of the new squares -/
def Brd.premL (b : Brd) (p : Ply) : List UInt8 := (b.fresh p).map fun i : Nat => b.pview p p.r (p.c + i)
theorem PGood.prem_eq {b : Brd} {p : Ply} {n : Nat} (h : PGood b p n) : ((b.fresh p).map fun i : Nat => b.prm (p.sr i) (p.sc i)) = b.premL p :=
  List.map_congr_left fun _ hi => (h.prm_sq (freshL_lt hi).1).symm
theorem prem_take (b : Brd) (p : Ply) {k : Nat} (h : k < (b.fresh p).length) : (b.premL p).take (k + 1) = (b.premL p).take k ++ [b.pview p p.r (p.c + ((b.fresh p)[k] : Int))] := by
  unfold Brd.premL
  rw [List.take_succ_eq_append_getElem (by rw [List.length_map]; exact h), List.getElem_map]
/-- the factor of the main word -/
def Brd.fac (b : Brd) (p : Ply) : Int := facA (b.pview p) p.r p.c (b.fresh p)
theorem prem_fac (b : Brd) (p : Ply) : facL (b.premL p) = b.fac p := facL_fresh _ _ _ _
theorem PGood.prem_len {b : Brd} {p : Ply} {n : Nat} (h : PGood b p n) : (b.premL p).length ≤ 12 := by
  unfold Brd.premL
  rw [List.length_map]
  exact Nat.le_trans (freshL_len _ _ _ _) h.twelve
def facOut (b : Brd) (p : Ply) : Int × Int := if b.okPlay p then (b.fac p, 0) else (0, 1)
theorem facOut_no {b : Brd} {p : Ply} (h : b.okPlay p = false) : facOut b p = (0, 1) := by unfold facOut; rw [h]; rfl
theorem facOut_yes {b : Brd} {p : Ply} (h : b.okPlay p = true) : facOut b p = (b.fac p, 0) := by unfold facOut; rw [h]; rfl
def premOut (b : Brd) (p : Ply) : ByteArray × Int := if b.okPlay p then (mkB (b.premL p), 0) else (⟨#[]⟩, 1)
theorem premOut_no {b : Brd} {p : Ply} (h : b.okPlay p = false) : premOut b p = (⟨#[]⟩, 1) := by unfold premOut; rw [h]; rfl
theorem premOut_yes {b : Brd} {p : Ply} (h : b.okPlay p = true) : premOut b p = (mkB (b.premL p), 0) := by unfold premOut; rw [h]; rfl
set_option maxRecDepth 100000 in
set_option maxHeartbeats 2000000 in
theorem PremiumsUsed_any (b : Brd) (p : Ply) (w : World) (hf : b.fit) (hs : p.word.size ≤ 1048576) (hE : CEnv w) :
    Calls Tryz.prog 30 #[.agg #[.int .i64 b.size, .string b.premium, .string b.cells], .agg #[.int .i64 p.row, .int .i64 p.col, .bool p.down, .string p.word]] w fun e w' => e = .returned (.tuple #[.string (premOut b p).1, .int .i64 (premOut b p).2]) ∧ Below w.heap.size w w' := by
  obtain ⟨w2, hw2⟩ : ∃ w2, w2 = (w.alloc (.cells #[.int .i64 b.size, .string b.premium, .string b.cells] 25)).alloc (.cells #[.int .i64 p.row, .int .i64 p.col, .bool p.down, .string p.word] 30) := ⟨_, rfl⟩
  have hb : Below w.heap.size w w2 := by rw [hw2]; exact ((Below.refl _ _).alloc (Nat.le_refl _) _).alloc (by simp) _
  have VB : Hid (VarAt w2 w.heap.size 25 [.int .i64 b.size, .string b.premium, .string b.cells]) := by
    rw [hw2]
    exact Lib.hid ((VarAt.new w 25 [.int .i64 b.size, .string b.premium, .string b.cells]).kept ((Below.refl _ _).alloc (Nat.le_refl _) _))
  have VP : Hid (VarAt w2 (w.heap.size + 1) 30 [.int .i64 p.row, .int .i64 p.col, .bool p.down, .string p.word]) := by
    rw [hw2]
    have := VarAt.new (w.alloc (.cells #[.int .i64 b.size, .string b.premium, .string b.cells] 25)) 30 [.int .i64 p.row, .int .i64 p.col, .bool p.down, .string p.word]
    simp only [World.size_alloc] at this
    exact Lib.hid this
  have HW2 := Lib.hid hw2
  have HE := Lib.hid (hE.kept hb)
  clear hw2 hE
  cases hk : b.okPlay p with
  | false =>
    rw [premOut_no hk]
    go_enter Tryz.func30, Tryz.ntmps30
    go_upto_region 1 with fail
    rw [← HW2.out]
    clear HW2
    have b0 := VB.out.cell (i := 0) rfl
    have b1 := VB.out.cell (i := 1) rfl
    have b2 := VB.out.cell (i := 2) rfl
    have c0 := VP.out.cell (i := 0) rfl
    have c1 := VP.out.cell (i := 1) rfl
    have c2 := VP.out.cell (i := 2) rfl
    have c3 := VP.out.cell (i := 3) rfl
    go_wp2_with fail
    refine (ValidPlay_any b p _ hf hs HE.out).mono ?_
    rintro e w3 ⟨rfl, hd⟩
    rw [hk]
    clear hk b0 b1 b2 c0 c1 c2 c3
    replace hb := hb.trans (hd.mono hb.size)
    replace VP := Lib.hid (VP.out.kept hd)
    clear hd
    go_wp2
    go_ret2
    exact ⟨rfl, hb⟩
  | true =>
    obtain ⟨n, hpg⟩ := okPlay_good hk
    rw [premOut_yes hk]
    have HPU : Hid (∀ W, Calls Tryz.prog 96 #[.agg #[.int .i64 b.size, .string b.premium, .string b.cells], .agg #[.int .i64 p.row, .int .i64 p.col, .bool p.down, .string p.word]] W (BytesPost W (b.premL p))) := Lib.hid (fun W => by
      have := premiumsUsed_any b p n W hpg
      rwa [hpg.prem_eq] at this)
    clear hpg
    generalize b.premL p = L at *
    go_enter Tryz.func30, Tryz.ntmps30
    go_upto_region 1 with fail
    rw [← HW2.out]
    clear HW2
    have b0 := VB.out.cell (i := 0) rfl
    have b1 := VB.out.cell (i := 1) rfl
    have b2 := VB.out.cell (i := 2) rfl
    have c0 := VP.out.cell (i := 0) rfl
    have c1 := VP.out.cell (i := 1) rfl
    have c2 := VP.out.cell (i := 2) rfl
    have c3 := VP.out.cell (i := 3) rfl
    go_wp2_with fail
    refine (ValidPlay_any b p _ hf hs HE.out).mono ?_
    rintro e w3 ⟨rfl, hd⟩
    rw [hk]
    clear hk b0 b1 b2 c0 c1 c2 c3
    replace hb := hb.trans (hd.mono hb.size)
    replace VB := Lib.hid (VB.out.kept hd)
    replace VP := Lib.hid (VP.out.kept hd)
    clear hd
    have b0 := VB.out.cell (i := 0) rfl
    have b1 := VB.out.cell (i := 1) rfl
    have b2 := VB.out.cell (i := 2) rfl
    have c0 := VP.out.cell (i := 0) rfl
    have c1 := VP.out.cell (i := 1) rfl
    have c2 := VP.out.cell (i := 2) rfl
    have c3 := VP.out.cell (i := 3) rfl
    go_wp2_with fail
    refine (HPU.out _).mono ?_
    rintro e w4 ⟨g, cap, rfl, ho, hd⟩
    have hcv := own_bytes ho rfl
    clear b0 b1 b2 c0 c1 c2 c3 ho
    replace hb := hb.trans (hd.mono hb.size)
    replace VP := Lib.hid (VP.out.kept hd)
    clear hd
    go_wp2
    go_ret2
    exact ⟨rfl, hb⟩
set_option maxRecDepth 100000 in
set_option maxHeartbeats 2000000 in
theorem WordFactor_any (b : Brd) (p : Ply) (w : World) (hf : b.fit) (hs : p.word.size ≤ 1048576) (hE : CEnv w) :
    Calls Tryz.prog 28 #[.agg #[.int .i64 b.size, .string b.premium, .string b.cells], .agg #[.int .i64 p.row, .int .i64 p.col, .bool p.down, .string p.word]] w fun e w' => e = .returned (.tuple #[.int .i64 (facOut b p).1, .int .i64 (facOut b p).2]) ∧ Below w.heap.size w w' := by
  obtain ⟨w2, hw2⟩ : ∃ w2, w2 = (w.alloc (.cells #[.int .i64 b.size, .string b.premium, .string b.cells] 25)).alloc (.cells #[.int .i64 p.row, .int .i64 p.col, .bool p.down, .string p.word] 30) := ⟨_, rfl⟩
  have hb : Below w.heap.size w w2 := by rw [hw2]; exact ((Below.refl _ _).alloc (Nat.le_refl _) _).alloc (by simp) _
  have VB : Hid (VarAt w2 w.heap.size 25 [.int .i64 b.size, .string b.premium, .string b.cells]) := by
    rw [hw2]
    exact Lib.hid ((VarAt.new w 25 [.int .i64 b.size, .string b.premium, .string b.cells]).kept ((Below.refl _ _).alloc (Nat.le_refl _) _))
  have VP : Hid (VarAt w2 (w.heap.size + 1) 30 [.int .i64 p.row, .int .i64 p.col, .bool p.down, .string p.word]) := by
    rw [hw2]
    have := VarAt.new (w.alloc (.cells #[.int .i64 b.size, .string b.premium, .string b.cells] 25)) 30 [.int .i64 p.row, .int .i64 p.col, .bool p.down, .string p.word]
    simp only [World.size_alloc] at this
    exact Lib.hid this
  have HW2 := Lib.hid hw2
  have HE := Lib.hid (hE.kept hb)
  clear hw2 hE
  cases hk : b.okPlay p with
  | false =>
    rw [facOut_no hk]
    go_enter Tryz.func28, Tryz.ntmps28
    go_upto_region 1 with fail
    rw [← HW2.out]
    clear HW2
    have b0 := VB.out.cell (i := 0) rfl
    have b1 := VB.out.cell (i := 1) rfl
    have b2 := VB.out.cell (i := 2) rfl
    have c0 := VP.out.cell (i := 0) rfl
    have c1 := VP.out.cell (i := 1) rfl
    have c2 := VP.out.cell (i := 2) rfl
    have c3 := VP.out.cell (i := 3) rfl
    go_wp2_with fail
    refine (ValidPlay_any b p _ hf hs HE.out).mono ?_
    rintro e w3 ⟨rfl, hd⟩
    rw [hk]
    clear hk b0 b1 b2 c0 c1 c2 c3
    replace hb := hb.trans (hd.mono hb.size)
    replace VP := Lib.hid (VP.out.kept hd)
    clear hd
    go_wp2
    go_ret2
    exact ⟨rfl, hb⟩
  | true =>
    obtain ⟨n, hpg⟩ := okPlay_good hk
    rw [facOut_yes hk, ← prem_fac]
    have HPU : Hid (∀ W, Calls Tryz.prog 96 #[.agg #[.int .i64 b.size, .string b.premium, .string b.cells], .agg #[.int .i64 p.row, .int .i64 p.col, .bool p.down, .string p.word]] W (BytesPost W (b.premL p))) := Lib.hid (fun W => by
      have := premiumsUsed_any b p n W hpg
      rwa [hpg.prem_eq] at this)
    have hln := hpg.prem_len
    clear hpg
    generalize b.premL p = L at *
    go_enter Tryz.func28, Tryz.ntmps28
    go_upto_region 1 with fail
    rw [← HW2.out]
    clear HW2
    have b0 := VB.out.cell (i := 0) rfl
    have b1 := VB.out.cell (i := 1) rfl
    have b2 := VB.out.cell (i := 2) rfl
    have c0 := VP.out.cell (i := 0) rfl
    have c1 := VP.out.cell (i := 1) rfl
    have c2 := VP.out.cell (i := 2) rfl
    have c3 := VP.out.cell (i := 3) rfl
    go_wp2_with fail
    refine (ValidPlay_any b p _ hf hs HE.out).mono ?_
    rintro e w3 ⟨rfl, hd⟩
    rw [hk]
    clear hk b0 b1 b2 c0 c1 c2 c3
    replace hb := hb.trans (hd.mono hb.size)
    replace VB := Lib.hid (VB.out.kept hd)
    replace VP := Lib.hid (VP.out.kept hd)
    clear hd
    have b0 := VB.out.cell (i := 0) rfl
    have b1 := VB.out.cell (i := 1) rfl
    have b2 := VB.out.cell (i := 2) rfl
    have c0 := VP.out.cell (i := 0) rfl
    have c1 := VP.out.cell (i := 1) rfl
    have c2 := VP.out.cell (i := 2) rfl
    have c3 := VP.out.cell (i := 3) rfl
    go_wp2_with fail
    refine (HPU.out _).mono ?_
    rintro e w4 ⟨g, cap, rfl, ho, hd⟩
    have HO := Lib.hid (own_slice U8.enc_len ho rfl)
    clear b0 b1 b2 c0 c1 c2 c3 ho
    replace hb := hb.trans (hd.mono hb.size)
    replace VP := Lib.hid (VP.out.kept hd)
    clear hd
    go_wp2_with fail
    refine (wordFactor_any L _ cap _ HO.out hln).mono ?_
    rintro e w5 ⟨rfl, hd⟩
    replace hb := hb.trans (hd.mono hb.size)
    replace VP := Lib.hid (VP.out.kept hd)
    clear hd
    go_wp2
    go_ret2
    exact ⟨rfl, hb⟩
set_option maxRecDepth 100000 in
set_option maxHeartbeats 2000000 in
theorem specWordFactor_any (b : Brd) (p : Ply) (w : World) (hf : b.fit) (hs : p.fit) :
    Calls Tryz.prog 29 #[.agg #[.int .i64 b.size, .string b.premium, .string b.cells], .agg #[.int .i64 p.row, .int .i64 p.col, .bool p.down, .string p.word]] w fun e w' => e = .returned (.tuple #[.int .i64 (facOut b p).1, .int .i64 (facOut b p).2]) ∧ Below w.heap.size w w' := by
  obtain ⟨w2, hw2⟩ : ∃ w2, w2 = (w.alloc (.cells #[.int .i64 b.size, .string b.premium, .string b.cells] 25)).alloc (.cells #[.int .i64 p.row, .int .i64 p.col, .bool p.down, .string p.word] 30) := ⟨_, rfl⟩
  have hb : Below w.heap.size w w2 := by rw [hw2]; exact ((Below.refl _ _).alloc (Nat.le_refl _) _).alloc (by simp) _
  have VB : Hid (VarAt w2 w.heap.size 25 [.int .i64 b.size, .string b.premium, .string b.cells]) := by
    rw [hw2]
    exact Lib.hid ((VarAt.new w 25 [.int .i64 b.size, .string b.premium, .string b.cells]).kept ((Below.refl _ _).alloc (Nat.le_refl _) _))
  have VP : Hid (VarAt w2 (w.heap.size + 1) 30 [.int .i64 p.row, .int .i64 p.col, .bool p.down, .string p.word]) := by
    rw [hw2]
    have := VarAt.new (w.alloc (.cells #[.int .i64 b.size, .string b.premium, .string b.cells] 25)) 30 [.int .i64 p.row, .int .i64 p.col, .bool p.down, .string p.word]
    simp only [World.size_alloc] at this
    exact Lib.hid this
  have HG : Hid (BAt w2 w.heap.size 0 b) := Lib.hid ⟨VB.out.cell (i := 0) rfl, VB.out.cell (i := 1) rfl, VB.out.cell (i := 2) rfl⟩
  have HW2 := Lib.hid hw2
  clear hw2 VB
  cases hk : b.okPlay p with
  | false =>
    rw [facOut_no hk]
    go_enter Tryz.func29, Tryz.ntmps29
    go_upto_region 1 with fail
    rw [← HW2.out]
    clear HW2
    have c0 := VP.out.cell (i := 0) rfl
    have c1 := VP.out.cell (i := 1) rfl
    have c2 := VP.out.cell (i := 2) rfl
    have c3 := VP.out.cell (i := 3) rfl
    go_wp2_with fail
    refine (l12Ok_any b p w.heap.size 0 _ HG.out hf hs).mono ?_
    rintro e w3 ⟨rfl, hd⟩
    rw [hk]
    clear hk c0 c1 c2 c3
    replace hb := hb.trans (hd.mono hb.size)
    replace VP := Lib.hid (VP.out.kept hd)
    clear hd
    go_wp2
    go_ret2
    exact ⟨rfl, hb⟩
  | true =>
    obtain ⟨n, hp⟩ := okPlay_good hk
    rw [facOut_yes hk]
    have HFL : Hid (∀ W, BAt W w.heap.size 0 b → Calls Tryz.prog 91 #[.pointer (some ⟨w.heap.size, 0, none⟩), .agg #[.int .i64 p.row, .int .i64 p.col, .bool p.down, .string p.word]] W fun e w' => e = .returned (flatV b p) ∧ Below W.heap.size W w') := Lib.hid (fun W h => l12Flat_any b p n w.heap.size 0 W hp.good h)
    have HMA : Hid (∀ x W, BAt W x 0 (b.flat p.down) → Calls Tryz.prog 97 #[.pointer (some ⟨x, 0, none⟩), .agg #[.int .i64 p.flat.row, .int .i64 p.flat.col, .bool p.flat.down, .string p.word]] W fun e w' => e = .returned (.int .i64 (b.fac p)) ∧ Below W.heap.size W w') := Lib.hid (fun x W h => by
      have := l13Main_any (b.flat p.down) n p.flat.row p.flat.col p.flat.down p.word x 0 W (hp.good.flat p.down) h hp.twelve (by rw [Ply.flat_row]; exact hp.r0) (by rw [Ply.flat_row]; exact hp.r1) (by rw [Ply.flat_col]; exact hp.c0) (by rw [Ply.flat_col]; exact hp.c1)
      rw [Ply.flat_row, Ply.flat_col] at this ⊢
      exact this)
    clear hp
    generalize b.fac p = v at *
    go_enter Tryz.func29, Tryz.ntmps29
    go_upto_region 1 with fail
    rw [← HW2.out]
    clear HW2
    have c0 := VP.out.cell (i := 0) rfl
    have c1 := VP.out.cell (i := 1) rfl
    have c2 := VP.out.cell (i := 2) rfl
    have c3 := VP.out.cell (i := 3) rfl
    go_wp2_with fail
    refine (l12Ok_any b p w.heap.size 0 _ HG.out hf hs).mono ?_
    rintro e w3 ⟨rfl, hd⟩
    rw [hk]
    clear hk c0 c1 c2 c3
    replace hb := hb.trans (hd.mono hb.size)
    replace VP := Lib.hid (VP.out.kept hd)
    replace HG := Lib.hid (HG.out.kept hd)
    clear hd
    have c0 := VP.out.cell (i := 0) rfl
    have c1 := VP.out.cell (i := 1) rfl
    have c2 := VP.out.cell (i := 2) rfl
    have c3 := VP.out.cell (i := 3) rfl
    go_wp2_with fail
    refine (HFL.out _ HG.out).mono ?_
    rintro e w4 ⟨rfl, hd⟩
    unfold flatV
    clear c0 c1 c2 c3
    replace hb := hb.trans (hd.mono hb.size)
    replace VP := Lib.hid (VP.out.kept hd)
    replace HG := Lib.hid (HG.out.kept hd)
    clear hd
    generalize b.flat p.down = f at *
    generalize p.flat.row = fr0 at *
    generalize p.flat.col = fc at *
    generalize p.flat.down = fd at *
    have HF : Hid (BAt ((w4.alloc (.cells #[.int .i64 f.size, .string f.premium, .string f.cells] 25)).alloc (.cells #[.int .i64 fr0, .int .i64 fc, .bool fd, .string p.word] 30)) w4.heap.size 0 f) := Lib.hid ((BAt.new w4 f 25).kept ((Below.refl _ _).alloc (Nat.le_refl _) _))
    have HQ : Hid (VarAt ((w4.alloc (.cells #[.int .i64 f.size, .string f.premium, .string f.cells] 25)).alloc (.cells #[.int .i64 fr0, .int .i64 fc, .bool fd, .string p.word] 30)) (w4.heap.size + 1) 30 [.int .i64 fr0, .int .i64 fc, .bool fd, .string p.word]) := Lib.hid (by
      have := VarAt.new (w4.alloc (.cells #[.int .i64 f.size, .string f.premium, .string f.cells] 25)) 30 [.int .i64 fr0, .int .i64 fc, .bool fd, .string p.word]
      simp only [World.size_alloc] at this
      exact this)
    have hd : Below w4.heap.size w4 ((w4.alloc (.cells #[.int .i64 f.size, .string f.premium, .string f.cells] 25)).alloc (.cells #[.int .i64 fr0, .int .i64 fc, .bool fd, .string p.word] 30)) := ((Below.refl _ _).alloc (Nat.le_refl _) _).alloc (by simp) _
    replace hb := hb.trans (hd.mono hb.size)
    replace VP := Lib.hid (VP.out.kept hd)
    replace HG := Lib.hid (HG.out.kept hd)
    clear hd
    go_upto_region 4 with fail
    generalize (w4.alloc (.cells #[.int .i64 f.size, .string f.premium, .string f.cells] 25)).alloc (.cells #[.int .i64 fr0, .int .i64 fc, .bool fd, .string p.word] 30) = w5 at *
    have q0 := HQ.out.cell (i := 0) rfl
    have q1 := HQ.out.cell (i := 1) rfl
    have q2 := HQ.out.cell (i := 2) rfl
    have q3 := HQ.out.cell (i := 3) rfl
    go_wp2_with fail
    refine (HMA.out _ _ HF.out).mono ?_
    rintro e w6 ⟨rfl, hd⟩
    clear q0 q1 q2 q3 HF HQ
    replace hb := hb.trans (hd.mono hb.size)
    replace VP := Lib.hid (VP.out.kept hd)
    clear hd
    go_wp2
    go_ret2
    exact ⟨rfl, hb⟩
set_option maxRecDepth 100000 in
set_option maxHeartbeats 4000000 in
theorem specPremiumsUsed_any (b : Brd) (p : Ply) (w : World) (hf : b.fit) (hs : p.fit) :
    Calls Tryz.prog 31 #[.agg #[.int .i64 b.size, .string b.premium, .string b.cells], .agg #[.int .i64 p.row, .int .i64 p.col, .bool p.down, .string p.word]] w fun e w' => e = .returned (.tuple #[.string (premOut b p).1, .int .i64 (premOut b p).2]) ∧ Below w.heap.size w w' := by
  obtain ⟨i0, hi0, hi1, hi2, hi3⟩ := info_parts infoByte
  obtain ⟨w2, hw2⟩ : ∃ w2, w2 = (w.alloc (.cells #[.int .i64 b.size, .string b.premium, .string b.cells] 25)).alloc (.cells #[.int .i64 p.row, .int .i64 p.col, .bool p.down, .string p.word] 30) := ⟨_, rfl⟩
  have hb : Below w.heap.size w w2 := by rw [hw2]; exact ((Below.refl _ _).alloc (Nat.le_refl _) _).alloc (by simp) _
  have VB : Hid (VarAt w2 w.heap.size 25 [.int .i64 b.size, .string b.premium, .string b.cells]) := by
    rw [hw2]
    exact Lib.hid ((VarAt.new w 25 [.int .i64 b.size, .string b.premium, .string b.cells]).kept ((Below.refl _ _).alloc (Nat.le_refl _) _))
  have VP : Hid (VarAt w2 (w.heap.size + 1) 30 [.int .i64 p.row, .int .i64 p.col, .bool p.down, .string p.word]) := by
    rw [hw2]
    have := VarAt.new (w.alloc (.cells #[.int .i64 b.size, .string b.premium, .string b.cells] 25)) 30 [.int .i64 p.row, .int .i64 p.col, .bool p.down, .string p.word]
    simp only [World.size_alloc] at this
    exact Lib.hid this
  have HG : Hid (BAt w2 w.heap.size 0 b) := Lib.hid ⟨VB.out.cell (i := 0) rfl, VB.out.cell (i := 1) rfl, VB.out.cell (i := 2) rfl⟩
  have HW2 := Lib.hid hw2
  clear hw2 VB
  cases hk : b.okPlay p with
  | false =>
    rw [premOut_no hk]
    go_enter Tryz.func31, Tryz.ntmps31
    go_upto_region 1 with fail
    rw [← HW2.out]
    clear HW2
    have c0 := VP.out.cell (i := 0) rfl
    have c1 := VP.out.cell (i := 1) rfl
    have c2 := VP.out.cell (i := 2) rfl
    have c3 := VP.out.cell (i := 3) rfl
    go_wp2_with fail
    refine (l12Ok_any b p w.heap.size 0 _ HG.out hf hs).mono ?_
    rintro e w3 ⟨rfl, hd⟩
    rw [hk]
    clear hk c0 c1 c2 c3
    replace hb := hb.trans (hd.mono hb.size)
    replace VP := Lib.hid (VP.out.kept hd)
    clear hd
    go_wp2
    go_ret2
    exact ⟨rfl, hb⟩
  | true =>
    obtain ⟨n, hp⟩ := okPlay_good hk
    rw [premOut_yes hk]
    have hs12 := hp.twelve
    have hfl : (b.fresh p).length ≤ p.word.size := freshL_len _ _ _ _
    have hr0 := hp.r0
    have hr1 := hp.r1
    have hc0 := hp.c0
    have hc1 := hp.c1
    have hn15 := hp.good.hi
    rw [← Ply.flat_row] at hr0 hr1
    rw [← Ply.flat_col] at hc0 hc1
    have HFL : Hid (∀ W, BAt W w.heap.size 0 b → Calls Tryz.prog 91 #[.pointer (some ⟨w.heap.size, 0, none⟩), .agg #[.int .i64 p.row, .int .i64 p.col, .bool p.down, .string p.word]] W fun e w' => e = .returned (flatV b p) ∧ Below W.heap.size W w') := Lib.hid (fun W h => l12Flat_any b p n w.heap.size 0 W hp.good h)
    have HFR : Hid (∀ x W, BAt W x 0 (b.flat p.down) → Calls Tryz.prog 98 #[.pointer (some ⟨x, 0, none⟩), .agg #[.int .i64 p.flat.row, .int .i64 p.flat.col, .bool p.flat.down, .string p.word]] W (NatsPost W (b.fresh p))) := Lib.hid (fun x W h => flatFresh_any b p n x W hp h)
    have HPR : Hid (∀ x (i : Nat) W, i < p.word.size → BAt W x 0 (b.flat p.down) → Calls Tryz.prog 99 #[.pointer (some ⟨x, 0, none⟩), .int .i64 p.flat.row, .int .i64 (p.flat.col + (i : Int))] W fun e w' => e = .returned (.int .u8 ((b.pview p p.r (p.c + i)).toNat : Int)) ∧ Drew W w') := Lib.hid (fun x i W hi h => by
      have := l13Premium_any (b.flat p.down) n p.flat.row (p.flat.col + (i : Int)) x 0 W (hp.good.flat p.down) h ((hp.good.flat p.down).inB.2 ⟨⟨hr0, hr1⟩, by omega, by omega⟩)
      rw [Ply.flat_row, Ply.flat_col] at this ⊢
      exact this)
    have HLT : Hid (∀ k (h : k < (b.fresh p).length), (b.fresh p)[k] < p.word.size) := Lib.hid (fun k h => (freshL_lt (List.getElem_mem h)).1)
    have HSN : Hid (∀ k (h : k < (b.fresh p).length), (b.premL p).take (k + 1) = (b.premL p).take k ++ [b.pview p p.r (p.c + ((b.fresh p)[k] : Int))]) := Lib.hid (fun k h => prem_take b p h)
    have hpl : (b.premL p).length = (b.fresh p).length := by unfold Brd.premL; rw [List.length_map]
    clear hp
    generalize b.premL p = PL at *
    generalize b.fresh p = fr at *
    generalize hpv : (fun i : Nat => b.pview p p.r (p.c + i)) = G at *
    have hG : ∀ i : Nat, b.pview p p.r (p.c + i) = G i := fun i => by rw [← hpv]
    simp only [hG] at HPR HSN
    clear hG hpv
    go_enter Tryz.func31, Tryz.ntmps31
    go_upto_region 1 with fail
    rw [← HW2.out]
    clear HW2
    have c0 := VP.out.cell (i := 0) rfl
    have c1 := VP.out.cell (i := 1) rfl
    have c2 := VP.out.cell (i := 2) rfl
    have c3 := VP.out.cell (i := 3) rfl
    go_wp2_with fail
    refine (l12Ok_any b p w.heap.size 0 _ HG.out hf hs).mono ?_
    rintro e w3 ⟨rfl, hd⟩
    rw [hk]
    clear hk c0 c1 c2 c3
    replace hb := hb.trans (hd.mono hb.size)
    replace VP := Lib.hid (VP.out.kept hd)
    replace HG := Lib.hid (HG.out.kept hd)
    clear hd
    have c0 := VP.out.cell (i := 0) rfl
    have c1 := VP.out.cell (i := 1) rfl
    have c2 := VP.out.cell (i := 2) rfl
    have c3 := VP.out.cell (i := 3) rfl
    go_wp2_with fail
    refine (HFL.out _ HG.out).mono ?_
    rintro e w4 ⟨rfl, hd⟩
    unfold flatV
    clear c0 c1 c2 c3
    replace hb := hb.trans (hd.mono hb.size)
    replace VP := Lib.hid (VP.out.kept hd)
    replace HG := Lib.hid (HG.out.kept hd)
    clear hd
    generalize b.flat p.down = f at *
    generalize p.flat.row = fr0 at *
    generalize p.flat.col = fc at *
    generalize p.flat.down = fd at *
    have HF : Hid (BAt ((w4.alloc (.cells #[.int .i64 f.size, .string f.premium, .string f.cells] 25)).alloc (.cells #[.int .i64 fr0, .int .i64 fc, .bool fd, .string p.word] 30)) w4.heap.size 0 f) := Lib.hid ((BAt.new w4 f 25).kept ((Below.refl _ _).alloc (Nat.le_refl _) _))
    have HQ : Hid (VarAt ((w4.alloc (.cells #[.int .i64 f.size, .string f.premium, .string f.cells] 25)).alloc (.cells #[.int .i64 fr0, .int .i64 fc, .bool fd, .string p.word] 30)) (w4.heap.size + 1) 30 [.int .i64 fr0, .int .i64 fc, .bool fd, .string p.word]) := Lib.hid (by
      have := VarAt.new (w4.alloc (.cells #[.int .i64 f.size, .string f.premium, .string f.cells] 25)) 30 [.int .i64 fr0, .int .i64 fc, .bool fd, .string p.word]
      simp only [World.size_alloc] at this
      exact this)
    have hd : Below w4.heap.size w4 ((w4.alloc (.cells #[.int .i64 f.size, .string f.premium, .string f.cells] 25)).alloc (.cells #[.int .i64 fr0, .int .i64 fc, .bool fd, .string p.word] 30)) := ((Below.refl _ _).alloc (Nat.le_refl _) _).alloc (by simp) _
    replace hb := hb.trans (hd.mono hb.size)
    replace VP := Lib.hid (VP.out.kept hd)
    replace HG := Lib.hid (HG.out.kept hd)
    clear hd
    go_upto_region 4 with fail
    generalize (w4.alloc (.cells #[.int .i64 f.size, .string f.premium, .string f.cells] 25)).alloc (.cells #[.int .i64 fr0, .int .i64 fc, .bool fd, .string p.word] 30) = w5 at *
    have q0 := HQ.out.cell (i := 0) rfl
    have q1 := HQ.out.cell (i := 1) rfl
    have q2 := HQ.out.cell (i := 2) rfl
    have q3 := HQ.out.cell (i := 3) rfl
    go_wp2_with fail
    refine (HFR.out _ _ HF.out).mono ?_
    rintro e w6 ⟨gx, cx, rfl, hx0, hd⟩
    have hz := hb.size
    have hz5 := hd.size
    have hqlt := HQ.out.lt
    have hgx := hx0.lt gx rfl
    have HX := Lib.hid hx0
    clear q0 q1 q2 q3 HFR hx0
    replace hb := hb.trans (hd.mono hb.size)
    replace HF := Lib.hid (HF.out.kept hd)
    replace HQ := Lib.hid (HQ.out.kept hd)
    clear hd
    generalize w4.heap.size = B4 at *
    have hgx5 : B4 + 1 < gx := by omega
    generalize hBB : w5.heap.size = B5 at *
    have hx : Below w6.heap.size w6 (w6.alloc (.cells #[] 5)) := (Below.refl _ _).alloc (Nat.le_refl _) _
    have HO : Hid ((w6.alloc (.cells #[] 5)).ownsRow w6.heap.size 5 1 (.slice (some ⟨w6.heap.size, 0, none⟩) 0 0) 0 (([] : List UInt8).flatMap U8.enc)) := Lib.hid (World.ownsRow_made (base := w6.heap.size) (e := 5) (size := 1) w6 #[] 0 (Nat.le_refl _) (by unfold maxLen; omega) rfl)
    replace HX := Lib.hid (own_below HX.out hx)
    replace hb := hb.trans (hx.mono hb.size)
    replace HF := Lib.hid (HF.out.kept hx)
    replace HQ := Lib.hid (HQ.out.kept hx)
    clear hx
    go_upto_region 6 with fail
    have hgxB : gx < w6.heap.size := hgx.2
    have hwB : w.heap.size ≤ w6.heap.size := by omega
    generalize w6.alloc (.cells #[] 5) = w7 at *
    generalize w6.heap.size = BL at *
    go_wp2_with fail
    go_loopw [9, 10] (fun ov iv wr => ∃ (k g cp : Nat), k ≤ fr.length ∧ iv = .int .i64 k ∧ ov = .slice (some ⟨g, 0, none⟩) k cp ∧ Hid (wr.ownsRow BL 5 1 (.slice (some ⟨g, 0, none⟩) k cp) k ((PL.take k).flatMap U8.enc)) ∧ Hid (wr.ownsRow B5 2 1 (.slice (some ⟨gx, 0, none⟩) fr.length cx) fr.length (fr.flatMap N64.enc)) ∧ Hid (BAt wr B4 0 f) ∧ Hid (VarAt wr (B4 + 1) 30 [.int .i64 fr0, .int .i64 fc, .bool fd, .string p.word]) ∧ gx < BL ∧ w.heap.size ≤ BL ∧ Below w.heap.size w wr) (fun _ iv _ => fr.length - (intOf iv).toNat)
    case atStart => exact ⟨0, BL, 0, Nat.zero_le _, rfl, rfl, HO, HX, HF, HQ, hgxB, hwB, hb⟩
    case round =>
      clear HO HX HF HQ hb
      obtain ⟨k, g, cp, hk9, rfl, rfl, HO, HX, HF, HQ, hgB, hwB, hb⟩ := hrel
      by_cases hlt : k < fr.length
      · have hi := HLT.out k hlt
        have HS2 := Lib.hid (HSN.out k hlt)
        have cx0 := own_cells (enc := N64.enc) (fun _ => rfl) HX.out rfl (i := k) hlt (j := 0) (v := .int .i64 (fr[k] : Int)) rfl
        simp only [Nat.mul_one, Nat.add_zero] at cx0
        have hkI : (k : Int) < (fr.length : Int) := by omega
        have hk0 : (0 : Int) ≤ (k : Int) := by omega
        generalize fr[k] = i at *
        have wci : IntKind.i64.wrap (fc + (i : Int)) = fc + (i : Int) := IntWalk.i64_in _ (by omega)
        have HC := Lib.hid (fun W h => HPR.out B4 i W hi h)
        clear HPR HLT HSN
        generalize G i = c at *
        have hgo := HO.out.lt g rfl
        go_upto_region 9 with fail
        have hd : Below wr.heap.size wr wr.drew := (Below.refl _ _).drew
        replace HO := Lib.hid (own_below HO.out hd)
        replace HX := Lib.hid (own_below HX.out hd)
        replace cx0 := cell_kept cx0 hd
        replace hb := hb.trans (hd.mono hb.size)
        replace HF := Lib.hid (HF.out.kept hd)
        replace HQ := Lib.hid (HQ.out.kept hd)
        clear hd
        have hS : wr.drew.cell? ⟨B4 + 1, 0, none⟩ = some (.int .i64 fr0) ∧ wr.drew.cell? ⟨B4 + 1, 1, none⟩ = some (.int .i64 fc) ∧ wr.drew.cell? ⟨gx, k, none⟩ = some (.int .i64 (i : Int)) := ⟨HQ.out.cell (i := 0) rfl, HQ.out.cell (i := 1) rfl, cx0⟩
        refine wp_region_held_drew (S := fun W => W.cell? ⟨B4 + 1, 0, none⟩ = some (.int .i64 fr0) ∧ W.cell? ⟨B4 + 1, 1, none⟩ = some (.int .i64 fc) ∧ W.cell? ⟨gx, k, none⟩ = some (.int .i64 (i : Int))) (by kernel_rfl) hS (fun hHeld => ?_)
        clear hHeld cx0
        generalize wr.drew = wD at *
        refine slotA 0 28 (.slice (some ⟨g, 0, none⟩) k cp) ?_
        simp only [S3]
        refine slotA 1 29 (.pointer (some ⟨B4 + 1, 0, none⟩)) ?_
        simp only [S3]
        refine slotA 2 30 (.int .i64 fr0) ?_ (hy := Or.inl ⟨by rfl, fun w' hS => by have c9 : w'.cell? ⟨B4 + 1, 0, none⟩ = some (.int .i64 fr0) := hS.1; go_simp⟩)
        simp only [S3]
        refine slotA 3 31 (.pointer (some ⟨B4 + 1, 1, none⟩)) ?_
        simp only [S3]
        refine slotA 4 32 (.int .i64 fc) ?_ (hy := Or.inl ⟨by rfl, fun w' hS => by have c9 : w'.cell? ⟨B4 + 1, 1, none⟩ = some (.int .i64 fc) := hS.2.1; go_simp⟩)
        simp only [S3]
        refine slotA 5 33 (.slice (some ⟨gx, 0, none⟩) fr.length cx) ?_
        simp only [S3]
        refine slotA 6 34 (.int .i64 (k : Int)) ?_
        simp only [S3]
        refine slotA 7 35 (.pointer (some ⟨gx, k, none⟩)) ?_
        simp only [S3]
        refine slotA 8 36 (.int .i64 (i : Int)) ?_ (hy := Or.inl ⟨by rfl, fun w' hS => by have c9 : w'.cell? ⟨gx, k, none⟩ = some (.int .i64 (i : Int)) := hS.2.2; go_simp⟩)
        simp only [S3]
        refine slotA 9 37 (.int .i64 (fc + (i : Int))) ?_
        simp only [S3]
        refine wpAnyH_ready (rs := [10]) (by kernel_rfl) (by simp) ?_
        refine AllReadyH.cons (o := _) rfl (fun K hK => ?_) AllReadyH.nil
        go_simp
        refine (HC.out _ HF.out).mono ?_
        rintro e w8 ⟨rfl, hdq⟩
        have hd := hdq.bels
        have hS2 : w8.cell? ⟨B4 + 1, 0, none⟩ = some (.int .i64 fr0) ∧ w8.cell? ⟨B4 + 1, 1, none⟩ = some (.int .i64 fc) ∧ w8.cell? ⟨gx, k, none⟩ = some (.int .i64 (i : Int)) := ⟨cell_kept hS.1 hd, cell_kept hS.2.1 hd, cell_kept hS.2.2 hd⟩
        replace HO := Lib.hid (own_below HO.out hd)
        replace HX := Lib.hid (own_below HX.out hd)
        replace hb := hb.trans (hd.mono hb.size)
        replace HF := Lib.hid (HF.out.kept hd)
        replace HQ := Lib.hid (HQ.out.kept hd)
        clear hd
        clear hdq hS
        go_wp2_with fail
        refine hK.out _ _ hS2 (fun hHeld => ?_)
        clear hK K hHeld
        refine wpAnyH_ready (rs := [11]) (by kernel_rfl) (by simp) ?_
        refine AllReadyH.cons (o := _) rfl (fun K hK => ?_) AllReadyH.nil
        have hx : Below w8.heap.size w8 (w8.alloc (.cells #[.int .u8 (c.toNat : Int)] 5)) := (Below.refl _ _).alloc (Nat.le_refl _) _
        have KN := Lib.hid (new_byte w8 c 5)
        have hS3 : (w8.alloc (.cells #[.int .u8 (c.toNat : Int)] 5)).cell? ⟨B4 + 1, 0, none⟩ = some (.int .i64 fr0) ∧ (w8.alloc (.cells #[.int .u8 (c.toNat : Int)] 5)).cell? ⟨B4 + 1, 1, none⟩ = some (.int .i64 fc) ∧ (w8.alloc (.cells #[.int .u8 (c.toNat : Int)] 5)).cell? ⟨gx, k, none⟩ = some (.int .i64 (i : Int)) := ⟨cell_kept hS2.1 hx, cell_kept hS2.2.1 hx, cell_kept hS2.2.2 hx⟩
        have hgx8 : BL ≤ (w8.alloc (.cells #[.int .u8 (c.toNat : Int)] 5)).heap.size := by have := (HO.out.lt g rfl); simp only [World.size_alloc]; omega
        replace HO := Lib.hid (own_below HO.out hx)
        replace HX := Lib.hid (own_below HX.out hx)
        replace hb := hb.trans (hx.mono hb.size)
        replace HF := Lib.hid (HF.out.kept hx)
        replace HQ := Lib.hid (HQ.out.kept hx)
        clear hx
        clear hS2
        go_simp
        refine hK.out _ _ hS3 (fun hHeld => ?_)
        clear hK K hHeld
        refine wpAnyH_ready (rs := [12]) (by kernel_rfl) (by simp) ?_
        refine AllReadyH.cons (o := _) rfl (fun K hK => ?_) AllReadyH.nil
        refine step_append_lies _ rfl (.tmp 28) (.tmp 39) 22 rfl BL 5 i0 _ 1 1 Tryz.underlying22 hi0 hi1 hi2 hi3 rfl (by decide) _ k ((PL.take k).flatMap U8.enc) (by rfl) HO.out ⟨w8.heap.size, 0, none⟩ 1 1 (U8.enc c) (by rfl) rfl KN.out (u8_one1 c) (by decide) ?c1 ?c2 hgx8 _ rfl ?_
        case c1 => unfold maxLen; omega
        case c2 => omega
        intro g8 cap8 w9 hown hgr hwh hlt8
        have hS4 : w9.cell? ⟨B4 + 1, 0, none⟩ = some (.int .i64 fr0) ∧ w9.cell? ⟨B4 + 1, 1, none⟩ = some (.int .i64 fc) ∧ w9.cell? ⟨gx, k, none⟩ = some (.int .i64 (i : Int)) := ⟨hgr.cell hS3.1 (by intro e; have e9 : B4 + 1 = g := Option.some.inj e; omega), hgr.cell hS3.2.1 (by intro e; have e9 : B4 + 1 = g := Option.some.inj e; omega), hgr.cell hS3.2.2 (by intro e; have e9 : gx = g := Option.some.inj e; omega)⟩
        replace HF := Lib.hid (HF.out.grown hgr (by intro e; have e9 : B4 = g := Option.some.inj e; omega))
        replace HQ := Lib.hid (HQ.out.grown hgr (by intro e; have e9 : B4 + 1 = g := Option.some.inj e; omega))
        replace HX := Lib.hid (World.ownsRow.kept HX.out hgr (.inr (by intro e; have e9 : gx = g := Option.some.inj e; omega)))
        replace hb := hb.grown hgr hb.size (fun q h => by have e9 : g = q := Option.some.inj h; omega)
        have HO9 : Hid (w9.ownsRow BL 5 1 (.slice (some ⟨g8, 0, none⟩) (k + 1) cap8) (k + 1) ((PL.take (k + 1)).flatMap U8.enc)) := Lib.hid (by rw [HS2.out, snoc_flat U8.enc]; exact hown)
        clear hown hgr hwh hlt8 KN HO hS3
        go_simp
        refine hK.out _ _ hS4 (fun hHeld => ?_)
        clear hK K hHeld
        refine slotA 13 9 (.slice (some ⟨g8, 0, none⟩) (k + 1) cap8) ?_
        simp only [S3]
        refine wpAnyH_done (by kernel_rfl) ?_ _
        clear hS4 HC HS2 wci
        go_wp2
        go_roundw
        case rel => exact ⟨k + 1, g8, cap8, by omega, by go_num, rfl, HO9, HX, HF, HQ, hgB, hwB, hb⟩
        case measure => simp [intOf]; omega
      · obtain rfl : k = fr.length := by omega
        have HOF := HO.out
        rw [List.take_of_length_le (by omega)] at HOF
        have hcv := own_bytes HOF hpl.symm
        clear HO HX HF HQ HOF HPR HLT HSN
        go_wp2
        go_ret2
        exact ⟨rfl, hb⟩
/-- two equal lists of numbers -/
theorem f6ints_any (xs : List Int) (a c : Option Addr) (ca cc : Nat) (w : World) (hm : SliceAt w 1 I64.enc a xs) (hm2 : SliceAt w 1 I64.enc c xs) (hl : xs.length ≤ 9223372036854775807) :
    Calls Tryz.prog 32 #[.slice a xs.length ca, .slice c xs.length cc] w fun e w' => e = .returned (.bool true) ∧ Below w.heap.size w w' := by
  have HM := Lib.hid hm
  have HM2 := Lib.hid hm2
  have hb := Below.refl w.heap.size w
  clear hm hm2
  go_enter Tryz.func32, Tryz.ntmps32
  go_wp2
  go_loopw [5] (fun i wr => ∃ k : Nat, k ≤ xs.length ∧ i = .int .i64 k ∧ Below w.heap.size w wr) (fun i _ => xs.length - (intOf i).toNat)
  case atStart => exact ⟨0, Nat.zero_le _, rfl, hb⟩
  case round =>
    clear hb
    obtain ⟨k, hk, rfl, hb⟩ := hrel
    by_cases hlt : k < xs.length
    · obtain ⟨mb, mo, rfl, hc⟩ := HM.out.open hlt
      obtain ⟨nb, no, rfl, hc2⟩ := HM2.out.open hlt
      have c0 := cell_kept (hc.at0 hlt rfl) hb
      have d0 := cell_kept (hc2.at0 hlt rfl) hb
      rw [Nat.mul_one] at c0 d0
      clear hc hc2 HM HM2
      generalize xs[k] = x at *
      have e0 := cell_regrown c0
      have f0 := cell_regrown d0
      have hkI : (k : Int) < (xs.length : Int) := by omega
      have hxx : (x != x) = false := bne_self_eq_false _
      go_upto_region 6 with fail
      refine wp_region_quiet_below (by kernel_rfl) (by kernel_rfl) ?_
      repeat (go_big_quiet_step (fail))
      refine wpQuiet_nil ?_
      intro wx hw'
      have hd := below_of_ex hw'
      clear hw'
      replace hb := hb.trans (hd.mono hb.size)
      clear hd
      go_wp2
      go_roundw
      case rel => exact ⟨k + 1, by omega, by go_num, hb⟩
      case measure => simp [intOf]; omega
    · go_wp2
      go_ret
      exact ⟨rfl, hb⟩
end Go.Proofs.YtjdcdhhbgijaoaaGreatDoor
