/- What the law of FnPlayOrder asks of what it calls, in one place. -/
import Derived.Test.YtjdcdhhbgijaoaaGreatDoorPtD
import Derived.Test.YtjdcdhhbgijaoaaGreatDoorPtE
import Derived.Test.YtjdcdhhbgijaoaaGreatDoorPtF
import Derived.Test.YtjdcdhhbgijaoaaGreatDoorPtG
import Derived.Test.YtjdcdhhbgijaoaaGreatDoorBpB
import Derived.Test.YtjdcdhhbgijaoaaGreatDoorWrC
import Derived.Laws.StructEq
import Derived.ChangeKeysEq
namespace Go.Proofs.YtjdcdhhbgijaoaaGreatDoor
open Go.ChangeShapes Go.WideShapes Go.ChangeAt Go.RowKit Go.Sort

theorem f6big_ct (ca : Option Addr) (n cap : Nat) (w : World) : Calls Tryz.prog 9 #[.slice ca n cap] w fun e w' => e = .returned (.bool (decide ((4096 : Int) < n))) ∧ w = w' := by
  go_enter Tryz.func9, Tryz.ntmps9
  go_wp2
  go_ret
  exact ⟨rfl, rfl⟩
theorem eqF_cons {P : Program} {d : Nat} {f : Field} {fs : List Field} {xs ys : Array Value} {a b : Value} {r s : Bool} {w : World} (hn : f.name ≠ "_") (ha : (part f.type xs f.offset).run P w = .ok a w) (hb : (part f.type ys f.offset).run P w = .ok b w)
    (hr : (Op.equalIn d f.type a b).run P w = .ok r w) (hs : (Op.eqFields d xs ys fs).run P w = .ok s w) : (Op.eqFields d xs ys (f :: fs)).run P w = .ok (r && s) w := by
  simp only [Op.eqFields, Sem.run_bind, ha, hb, hr, Result.andThen_ok, hn, ne_eq, not_false_eq_true, if_true, Sem.run_ite]
  cases r
  · simp
  · simp [hs]
theorem eqF_int {d : Nat} {f : Field} {fs : List Field} {xs ys : Array Value} {a b : Int} {s : Bool} {w : World} {n : String} {o : Nat} (hf : (f.name, f.type, f.offset) = (n, 2, o)) (hn : n ≠ "_") (ha : xs[o]? = some (.int .i64 a)) (hb : ys[o]? = some (.int .i64 b))
    (hs : (Op.eqFields (d + 1) xs ys fs).run Tryz.prog w = .ok s w) : (Op.eqFields (d + 1) xs ys (f :: fs)).run Tryz.prog w = .ok ((a == b) && s) w := by
  simp only [Prod.mk.injEq] at hf
  obtain ⟨h1, h2, h3⟩ := hf
  subst h1
  refine eqF_cons hn (a := .int .i64 a) (b := .int .i64 b) ?_ ?_ ?_ hs
  · rw [h2, h3]; exact run_part_plain w (by kernel_rfl) ha
  · rw [h2, h3]; exact run_part_plain w (by kernel_rfl) hb
  · rw [h2]; exact run_equalIn_int w d _ .i64 .i64 a b Tryz.underlying2
theorem eqF_str {d : Nat} {f : Field} {fs : List Field} {xs ys : Array Value} {a b : ByteArray} {s : Bool} {w : World} {n : String} {o : Nat} (hf : (f.name, f.type, f.offset) = (n, 9, o)) (hn : n ≠ "_") (ha : xs[o]? = some (.string a)) (hb : ys[o]? = some (.string b))
    (hs : (Op.eqFields (d + 1) xs ys fs).run Tryz.prog w = .ok s w) : (Op.eqFields (d + 1) xs ys (f :: fs)).run Tryz.prog w = .ok ((a.toList == b.toList) && s) w := by
  simp only [Prod.mk.injEq] at hf
  obtain ⟨h1, h2, h3⟩ := hf
  subst h1
  refine eqF_cons hn (a := .string a) (b := .string b) ?_ ?_ ?_ hs
  · rw [h2, h3]; exact run_part_plain w (by kernel_rfl) ha
  · rw [h2, h3]; exact run_part_plain w (by kernel_rfl) hb
  · rw [h2]; exact run_equalIn_string w d _ a b Tryz.underlying9
theorem eqF_bool {d : Nat} {f : Field} {fs : List Field} {xs ys : Array Value} {a b : Bool} {s : Bool} {w : World} {n : String} {o : Nat} (hf : (f.name, f.type, f.offset) = (n, 4, o)) (hn : n ≠ "_") (ha : xs[o]? = some (.bool a)) (hb : ys[o]? = some (.bool b))
    (hs : (Op.eqFields (d + 1) xs ys fs).run Tryz.prog w = .ok s w) : (Op.eqFields (d + 1) xs ys (f :: fs)).run Tryz.prog w = .ok ((a == b) && s) w := by
  simp only [Prod.mk.injEq] at hf
  obtain ⟨h1, h2, h3⟩ := hf
  subst h1
  refine eqF_cons hn (a := .bool a) (b := .bool b) ?_ ?_ ?_ hs
  · rw [h2, h3]; exact run_part_plain w (by kernel_rfl) ha
  · rw [h2, h3]; exact run_part_plain w (by kernel_rfl) hb
  · rw [h2]; exact run_equalIn_bool w d _ a b Tryz.underlying4
theorem uPly : (Tryz.prog.fieldsOf 30).toList.map (fun f => (f.name, f.type, f.offset)) = [("Row", 2, 0), ("Col", 2, 1), ("Down", 4, 2), ("Word", 9, 3)] := by kernel_rfl
theorem guard_ply : Tryz.prog.eqGuardType Tryz.prog.depth 30 = false := by kernel_rfl
/-- two plays -/
theorem equalIn_ply (d : Nat) (x y x2 y2 : Int) (u u2 : Bool) (z z2 : ByteArray) (w : World) : (Op.equalIn (d + 2) 30 (.agg #[.int .i64 x, .int .i64 y, .bool u, .string z]) (.agg #[.int .i64 x2, .int .i64 y2, .bool u2, .string z2])).run Tryz.prog w = .ok ((x == x2) && ((y == y2) && ((u == u2) && ((z.toList == z2.toList) && true)))) w := by
  have h1 : Tryz.prog.underlying 30 = some (.struct (Tryz.prog.fieldsOf 30)) := by kernel_rfl
  have h2 : Tryz.prog.stoodInHeld 30 = false := by kernel_rfl
  rw [run_equalIn_agg w (d + 1) 30 _ _ h1 h2]
  have hu := uPly
  match h : (Tryz.prog.fieldsOf 30).toList with
  | [f0, f1, f2, f3] =>
    rw [h] at hu
    simp only [List.map_cons, List.map_nil, List.cons.injEq, and_true] at hu
    obtain ⟨e0, e1, e2, e3⟩ := hu
    exact eqF_int e0 (by decide) rfl rfl (eqF_int e1 (by decide) rfl rfl (eqF_bool e2 (by decide) rfl rfl (eqF_str e3 (by decide) rfl rfl rfl)))
  | [] | [_] | [_, _] | [_, _, _] | _ :: _ :: _ :: _ :: _ :: _ => rw [h] at hu; simp at hu
theorem neq_ply (x y : Int) (u : Bool) (z : ByteArray) (w : World) : (binOp .neq 30 (.agg #[.int .i64 x, .int .i64 y, .bool u, .string z]) (.agg #[.int .i64 x, .int .i64 y, .bool u, .string z])).run Tryz.prog w = .ok (.bool false) w := by
  rw [run_neq_struct, equalIn_ply 9998]
  simp
theorem ply_ext {a b : Ply} (h1 : a.row = b.row) (h2 : a.col = b.col) (h3 : a.down = b.down) (h4 : a.word = b.word) : a = b := by
  cases a; cases b
  simp only at h1 h2 h3 h4
  subst h1 h2 h3 h4
  rfl
theorem eql_ply (p q : Ply) (w : World) : (binOp .eql 30 (.agg #[.int .i64 p.row, .int .i64 p.col, .bool p.down, .string p.word]) (.agg #[.int .i64 q.row, .int .i64 q.col, .bool q.down, .string q.word])).run Tryz.prog w = .ok (.bool (p.cmp q == 0)) w := by
  rw [run_eql_struct, equalIn_ply 9998]
  by_cases h : p = q
  · subst h
    have e : p.cmp p = 0 := cmp_zero.2 rfl
    rw [e]
    simp
  · have e : (p.cmp q == 0) = false := beq_eq_false_iff_ne.2 fun k => h (cmp_zero.1 k)
    rw [e]
    have e2 : ((p.row == q.row) && ((p.col == q.col) && ((p.down == q.down) && ((p.word.toList == q.word.toList) && true)))) = false := by
      rw [Bool.eq_false_iff]
      intro k
      simp only [Bool.and_eq_true, beq_iff_eq, and_true] at k
      exact h (ply_ext k.1 k.2.1 k.2.2.1 (by by_cases hw : p.word = q.word; · exact hw
                                             · have := strNe hw; rw [beq_eq_false_iff_ne] at this; exact absurd k.2.2.2 this))
    rw [e2]
    rfl
set_option maxHeartbeats 2000000 in
theorem f6same_any (xs : List ByteArray) (a c : Option Addr) (ca cc : Nat) (w : World) (hm : SliceAt w 1 Tx.enc a xs) (hm2 : SliceAt w 1 Tx.enc c xs) (hl : xs.length ≤ 9223372036854775807) :
    Calls Tryz.prog 20 #[.slice a xs.length ca, .slice c xs.length cc] w fun e w' => e = .returned (.bool true) ∧ Below w.heap.size w w' := by
  have HM := Lib.hid hm
  have HM2 := Lib.hid hm2
  have hb := Below.refl w.heap.size w
  clear hm hm2
  go_enter Tryz.func20, Tryz.ntmps20
  go_wp2
  go_loopw [5] (fun i wr => ∃ k : Nat, k ≤ xs.length ∧ i = .int .i64 k ∧ Below w.heap.size w wr) (fun i _ => xs.length - (intOf i).toNat)
  case atStart => exact ⟨0, Nat.zero_le _, rfl, hb⟩
  case round =>
    clear hb
    obtain ⟨k, hk, rfl, hb⟩ := hrel
    by_cases hlt : k < xs.length
    · obtain ⟨mb, mo, rfl, hc⟩ := HM.out.open hlt
      obtain ⟨nb, no, rfl, hc2⟩ := HM2.out.open hlt
      have c0 := cell_kept (hc k hlt 0 _ rfl) hb
      have d0 := cell_kept (hc2 k hlt 0 _ rfl) hb
      simp only [Nat.add_zero, Nat.mul_one] at c0 d0
      clear hc hc2 HM HM2
      generalize xs[k] = x at *
      have e0 := cell_regrown c0
      have f0 := cell_regrown d0
      have hx : (x.toList != x.toList) = false := bne_self_eq_false _
      have hkI : (k : Int) < (xs.length : Int) := by omega
      go_upto_region 6 with fail
      refine wp_region_quiet_below (by kernel_rfl) (by kernel_rfl) ?_
      repeat (go_big_quiet_step (fail))
      refine wpQuiet_nil ?_
      intro wx hw'
      have hd := below_of_ex hw'
      clear hw'
      replace hb := hb.trans (hd.mono hb.size)
      clear hd
      go_wp2
      go_roundw
      case rel => exact ⟨k + 1, by omega, by go_num, hb⟩
      case measure => simp [intOf]; omega
    · go_wp2
      go_ret
      exact ⟨rfl, hb⟩

set_option maxRecDepth 100000 in
theorem specReadPlay_any (s : ByteArray) (w : World) (hs : s.size ≤ 1048576) : Calls Tryz.prog 59 #[.string s] w (ReadOut (readPlay s.data.toList) w) := by
  have hb : Below w.heap.size w (w.alloc (.cells #[.int .i64 0, .int .i64 0, .bool false, .string ⟨#[]⟩] 30)) := (Below.refl _ _).alloc (Nat.le_refl _) _
  have V2 := Lib.hid (VarAt.new w 30 [.int .i64 0, .int .i64 0, .bool false, .string ⟨#[]⟩])
  have HR := Lib.hid (fun W => l12Read_any s W hs)
  have HEQ := Lib.hid (readPlay_eq s.data.toList)
  go_enter Tryz.func59, Tryz.ntmps59
  go_upto_region 1 with fail
  generalize w.alloc (.cells #[.int .i64 0, .int .i64 0, .bool false, .string ⟨#[]⟩] 30) = w1 at *
  go_wp2_with fail
  refine (HR.out _).mono ?_
  rintro e w3 ⟨rfl, hd⟩
  rw [← HEQ.out]
  replace V2 := Lib.hid (V2.out.kept hd)
  replace hb := hb.trans (hd.mono hb.size)
  clear hd HR HEQ
  obtain ⟨o, ho⟩ : ∃ o, o = readPlay s.data.toList := ⟨_, rfl⟩
  rw [← ho]
  have HO := Lib.hid ho
  clear ho
  generalize hX : o.getD ⟨0, 0, false, ⟨#[]⟩⟩ = X at *
  have HX := Lib.hid hX
  clear hX
  have t0 := V2.out.cell (i := 0) rfl
  have t1 := V2.out.cell (i := 1) rfl
  have t2 := V2.out.cell (i := 2) rfl
  have t3 := V2.out.cell (i := 3) rfl
  have u0 := V2.out.free 0
  have u1 := V2.out.free 1
  have u2 := V2.out.free 2
  have u3 := V2.out.free 3
  obtain ⟨o0, k0⟩ := V2.out.set 0 (.int .i64 X.row)
  obtain ⟨o1, k1⟩ := o0.set 1 (.int .i64 X.col)
  obtain ⟨o2, k2⟩ := o1.set 2 (.bool X.down)
  obtain ⟨o3, k3⟩ := o2.set 3 (.string X.word)
  have GG := grownBy_trans (grownBy_trans (grownBy_trans k0 k1) k2) k3
  have hb9 := hb.grown GG hb.size (fun q h => by cases h; omega)
  have H3 := Lib.hid o3
  clear o0 o1 o2 o3 k0 k1 k2 k3 GG V2
  go_wp2
  have e0 := H3.out.cell (i := 0) (v := .int .i64 X.row) rfl
  have e1 := H3.out.cell (i := 1) (v := .int .i64 X.col) rfl
  have e2 := H3.out.cell (i := 2) (v := .bool X.down) rfl
  have e3 := H3.out.cell (i := 3) (v := .string X.word) rfl
  refine bodyPost_ret (v := .tuple #[.agg #[.int .i64 X.row, .int .i64 X.col, .bool X.down, .string X.word], .bool o.isSome]) (by simp [results, Tryz.results59, go_sem, e0, e1, e2, e3]) rfl ?_
  unfold ReadOut
  rw [← HO.out, HX.out]
  exact ⟨rfl, hb9⟩
set_option maxRecDepth 100000 in
theorem specComparePlays_any (a b : Ply) (w : World) :
    Calls Tryz.prog 63 #[.agg #[.int .i64 a.row, .int .i64 a.col, .bool a.down, .string a.word], .agg #[.int .i64 b.row, .int .i64 b.col, .bool b.down, .string b.word]] w fun e w' => e = .returned (.int .i64 (a.cmp b)) ∧ Below w.heap.size w w' := by
  have HCM := Lib.hid (fun W => l12Compare_any a b W)
  obtain ⟨w2, hw2⟩ : ∃ w2, w2 = (w.alloc (.cells #[.int .i64 a.row, .int .i64 a.col, .bool a.down, .string a.word] 30)).alloc (.cells #[.int .i64 b.row, .int .i64 b.col, .bool b.down, .string b.word] 30) := ⟨_, rfl⟩
  have hb : Below w.heap.size w w2 := by rw [hw2]; exact ((Below.refl _ _).alloc (Nat.le_refl _) _).alloc (by simp) _
  have VA : Hid (VarAt w2 w.heap.size 30 [.int .i64 a.row, .int .i64 a.col, .bool a.down, .string a.word]) := by
    rw [hw2]
    exact Lib.hid ((VarAt.new w 30 [.int .i64 a.row, .int .i64 a.col, .bool a.down, .string a.word]).kept ((Below.refl _ _).alloc (Nat.le_refl _) _))
  have VB : Hid (VarAt w2 (w.heap.size + 1) 30 [.int .i64 b.row, .int .i64 b.col, .bool b.down, .string b.word]) := by
    rw [hw2]
    have := VarAt.new (w.alloc (.cells #[.int .i64 a.row, .int .i64 a.col, .bool a.down, .string a.word] 30)) 30 [.int .i64 b.row, .int .i64 b.col, .bool b.down, .string b.word]
    simp only [World.size_alloc] at this
    exact Lib.hid this
  have HW2 := Lib.hid hw2
  clear hw2
  go_enter Tryz.func63, Tryz.ntmps63
  go_upto_region 1 with fail
  rw [← HW2.out]
  clear HW2
  have c0 := VA.out.cell (i := 0) rfl
  have c1 := VA.out.cell (i := 1) rfl
  have c2 := VA.out.cell (i := 2) rfl
  have c3 := VA.out.cell (i := 3) rfl
  have d0 := VB.out.cell (i := 0) rfl
  have d1 := VB.out.cell (i := 1) rfl
  have d2 := VB.out.cell (i := 2) rfl
  have d3 := VB.out.cell (i := 3) rfl
  clear VA VB
  go_wp2_with fail
  refine (HCM.out _).mono ?_
  rintro e w3 ⟨rfl, hd⟩
  replace hb := hb.trans (hd.mono hb.size)
  clear c0 c1 c2 c3 d0 d1 d2 d3
  go_wp2
  go_ret
  exact ⟨rfl, hb⟩

/-! ### What is asked -/
structure OrderK (p q : Ply) (t : ByteArray) (k : Int) (ok : Bool) (R : Ply) : Prop where
  c1 : ∀ W, Calls Tryz.prog 55 #[.agg #[.int .i64 p.row, .int .i64 p.col, .bool p.down, .string p.word], .agg #[.int .i64 q.row, .int .i64 q.col, .bool q.down, .string q.word]] W fun e w' => e = .returned (.int .i64 k) ∧ Below W.heap.size W w'
  c2 : ∀ W, Calls Tryz.prog 55 #[.agg #[.int .i64 q.row, .int .i64 q.col, .bool q.down, .string q.word], .agg #[.int .i64 p.row, .int .i64 p.col, .bool p.down, .string p.word]] W fun e w' => e = .returned (.int .i64 (-k)) ∧ Below W.heap.size W w'
  c3 : ∀ W, Calls Tryz.prog 63 #[.agg #[.int .i64 p.row, .int .i64 p.col, .bool p.down, .string p.word], .agg #[.int .i64 q.row, .int .i64 q.col, .bool q.down, .string q.word]] W fun e w' => e = .returned (.int .i64 k) ∧ Below W.heap.size W w'
  t1 : ∀ W, CEnv W → Env W → Calls Tryz.prog 56 #[.agg #[.int .i64 p.row, .int .i64 p.col, .bool p.down, .string p.word]] W fun e w' => e = .returned (.string t) ∧ Below W.heap.size W w'
  t2 : ∀ W, Calls Tryz.prog 64 #[.agg #[.int .i64 p.row, .int .i64 p.col, .bool p.down, .string p.word]] W fun e w' => e = .returned (.string t) ∧ Below W.heap.size W w'
  r1 : ∀ W, CEnv W → Env W → Calls Tryz.prog 57 #[.string t] W fun e w' => e = .returned (.tuple #[.agg #[.int .i64 R.row, .int .i64 R.col, .bool R.down, .string R.word], .bool ok]) ∧ Below W.heap.size W w'
  eq : ∀ W : World, (binOp .eql 30 (.agg #[.int .i64 p.row, .int .i64 p.col, .bool p.down, .string p.word]) (.agg #[.int .i64 q.row, .int .i64 q.col, .bool q.down, .string q.word])).run Tryz.prog W = .ok (.bool (k == 0)) W
  neg : IntKind.i64.wrap (-k) = -k
  okt : (ok = true ∧ t.toList.isEmpty = false ∧ R = p) ∨ (ok = false ∧ t = ⟨#[]⟩)
structure ReadK (u : ByteArray) (one : Bool) (X : Ply) : Prop where
  r2 : ∀ W, CEnv W → Env W → Calls Tryz.prog 57 #[.string u] W fun e w' => e = .returned (.tuple #[.agg #[.int .i64 X.row, .int .i64 X.col, .bool X.down, .string X.word], .bool one]) ∧ Below W.heap.size W w'
  r3 : ∀ W, Calls Tryz.prog 59 #[.string u] W fun e w' => e = .returned (.tuple #[.agg #[.int .i64 X.row, .int .i64 X.col, .bool X.down, .string X.word], .bool one]) ∧ Below W.heap.size W w'
  ux : one = true → ∀ W, CEnv W → Env W → Calls Tryz.prog 56 #[.agg #[.int .i64 X.row, .int .i64 X.col, .bool X.down, .string X.word]] W fun e w' => e = .returned (.string u) ∧ Below W.heap.size W w'
theorem playText_size {p : Ply} (hw : p.word.size ≤ 21) : (playText p).size ≤ 1048576 := by
  cases hp : p.plain with
  | false => rw [text_no hp]; decide
  | true =>
    rw [text_yes hp]
    obtain ⟨⟨r0, r1⟩, ⟨k0, k1⟩, _⟩ := plain_iff.1 hp
    have hi := itoa_short (n := p.row + 1) (by omega) (by omega)
    have hz : p.word.data.toList.length = p.word.size := Array.length_toList
    rw [mkB_size]
    unfold Ply.text Ply.place
    split <;> simp only [List.length_append, List.length_cons, List.length_nil] <;> omega
theorem orderK {p q : Ply} (hp : p.word.size ≤ 21) : ∃ t k ok R, OrderK p q t k ok R := by
  have ht := playText_size hp
  refine ⟨playText p, p.cmp q, (readPlay (playText p).data.toList).isSome, (readPlay (playText p).data.toList).getD ⟨0, 0, false, ⟨#[]⟩⟩,
    fun W => ComparePlays_any p q W, fun W => ?_, fun W => specComparePlays_any p q W, fun W e1 e2 => PlayText_any p W (by omega) e1 e2.1, fun W => specPlayText_any p W (by omega),
    fun W e1 e2 => ReadPlay_any _ W ht e1 e2, fun W => eql_ply p q W, ?_, ?_⟩
  · have := ComparePlays_any q p W
    rwa [cmp_swap] at this
  · rcases cmp_tri p q with h | h | h <;> rw [h] <;> rfl
  · rw [readPlay_text]
    cases hpl : p.plain with
    | true =>
      rw [if_pos rfl]
      refine .inl ⟨rfl, txtNe ?_, rfl⟩
      intro e
      rw [text_yes hpl] at e
      have := congrArg (fun z : ByteArray => z.data.toList) e
      simp only [mkB_data] at this
      exact text_ne p this
    | false =>
      rw [if_neg (by decide)]
      exact .inr ⟨rfl, text_no hpl⟩
theorem readK {u : ByteArray} (hu : u.size ≤ 100) : ∃ one X, ReadK u one X := by
  have hu2 : u.size ≤ 1048576 := Nat.le_trans hu (by decide)
  refine ⟨(readPlay u.data.toList).isSome, (readPlay u.data.toList).getD ⟨0, 0, false, ⟨#[]⟩⟩, fun W e1 e2 => ReadPlay_any _ W hu2 e1 e2, fun W => specReadPlay_any _ W hu2, fun h W e1 e2 => ?_⟩
  obtain ⟨x, hx⟩ := Option.isSome_iff_exists.1 h
  rw [hx, Option.getD_some]
  have e : playText x = u := by rw [playText_of hx, mkB_of]
  have hs : x.word.size ≤ 1048576 := by
    have hxt := ((readPlay_iff _ _).1 hx).2
    have hl := congrArg List.length hxt
    unfold Ply.text at hl
    have h1 : u.data.toList.length = u.size := Array.length_toList
    have h2 : x.word.data.toList.length = x.word.size := Array.length_toList
    simp only [List.length_append, List.length_cons] at hl
    omega
  have := PlayText_any x W hs e1 e2.1
  rwa [e] at this
theorem CodeAt.later {w W : World} {ca : Option Addr} {bs : List Int} (h : CodeAt w w.heap.size ca bs) (hb : Below w.heap.size w W) : CodeAt W W.heap.size ca bs := by
  obtain ⟨c1, c2, c3, c4⟩ := h
  exact ⟨c1.kept hb, c2, c3, fun h0 cb co e => Nat.lt_of_lt_of_le (c4 h0 cb co e) hb.size⟩
def wrL (ws : List ByteArray) (b : Brd) (p : Ply) : List ByteArray := if lexOk ws && b.okPlay p then wrongL ws (b.words p) else []
def wrC (ws : List ByteArray) (b : Brd) (p : Ply) : Int := if lexOk ws && b.okPlay p then 0 else 1
theorem wrongPost_l {b : Brd} {p : Ply} {ws : List ByteArray} {w : World} {e : Ending} {w' : World} (h : WrongPost b p ws w e w') : ∃ a cap, e = .returned (.tuple #[.slice a (wrL ws b p).length cap, .int .i64 (wrC ws b p)]) ∧ SliceAt w' 1 Tx.enc a (wrL ws b p) ∧ Below w.heap.size w w' := by
  unfold WrongPost at h
  unfold wrL wrC
  cases hk : (lexOk ws && b.okPlay p) with
  | false =>
    rw [hk] at h
    obtain ⟨rfl, hb⟩ := h
    rw [if_neg (by decide), if_neg (by decide)]
    exact ⟨none, 0, rfl, SliceAt.nil _ _ _ _, hb⟩
  | true =>
    rw [hk, if_pos rfl] at h
    obtain ⟨g, cap, rfl, ho, hb⟩ := h
    rw [if_pos rfl, if_pos rfl]
    exact ⟨some ⟨g, 0, none⟩, cap, rfl, own_slice Tx.enc_len ho rfl, hb⟩
structure WrongK (b : Brd) (p : Ply) (g cap : Nat) (ws : List ByteArray) (L : List ByteArray) (c : Int) : Prop where
  w1 : ∀ W, CEnv W → SliceAt W 1 Tx.enc (some ⟨g, 0, none⟩) ws → Calls Tryz.prog 61 #[.agg #[.int .i64 b.size, .string b.premium, .string b.cells], .agg #[.slice (some ⟨g, 0, none⟩) ws.length cap], .agg #[.int .i64 p.row, .int .i64 p.col, .bool p.down, .string p.word]] W fun e w' => ∃ a cap, e = .returned (.tuple #[.slice a L.length cap, .int .i64 c]) ∧ SliceAt w' 1 Tx.enc a L ∧ Below W.heap.size W w'
  w2 : ∀ W, SliceAt W 1 Tx.enc (some ⟨g, 0, none⟩) ws → Calls Tryz.prog 62 #[.agg #[.int .i64 b.size, .string b.premium, .string b.cells], .agg #[.slice (some ⟨g, 0, none⟩) ws.length cap], .agg #[.int .i64 p.row, .int .i64 p.col, .bool p.down, .string p.word]] W fun e w' => ∃ a cap, e = .returned (.tuple #[.slice a L.length cap, .int .i64 c]) ∧ SliceAt w' 1 Tx.enc a L ∧ Below W.heap.size W w'
  len : L.length ≤ 9223372036854775807
theorem wrongK {b : Brd} {p : Ply} {g cap : Nat} {ws : List ByteArray} (hf : b.fit) (hp : p.word.size ≤ 1048576) (hl : ws.length ≤ 9223372036854775807) (hwf : WordsFit ws) : ∃ L c, WrongK b p g cap ws L c := by
  refine ⟨wrL ws b p, wrC ws b p, fun W e1 e2 => (WrongWords_any b p ws _ cap W e2 hf hp hl hwf e1).mono fun _ _ k => wrongPost_l k, fun W e2 => (specWrongWords_any b p ws _ cap W e2 hf (Nat.le_trans hp (by decide)) hl hwf).mono fun _ _ k => wrongPost_l k, ?_⟩
  unfold wrL
  split
  · rename_i h
    rw [Bool.and_eq_true] at h
    obtain ⟨n, hg⟩ := okPlay_good h.2
    have := words_len hg
    have := wrongL_len ws (b.words p)
    omega
  · exact Nat.zero_le _
end Go.Proofs.YtjdcdhhbgijaoaaGreatDoor
