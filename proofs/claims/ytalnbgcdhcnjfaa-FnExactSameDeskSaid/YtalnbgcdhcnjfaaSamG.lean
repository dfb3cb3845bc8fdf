/- Plain: whether two games are the same. Contracts: l02Same, SameGame of the reference and of the program. No condition but that a length fits an int. -/
import Derived.Test.YtalnbgcdhcnjfaaSamT
import Derived.Test.YtalnbgcdhcnjfaaSamL
import Derived.Test.YtalnbgcdhcnjfaaDkG
import Derived.Test.YtalnbgcdhcnjfaaGmE
namespace Go.Proofs.Ytalnbgcdhcnjfaa
open Go.ChangeShapes Go.WideShapes Go.ChangeAt Go.RowKit Go.Sort

/-- whether two last actions are the same -/
def lastEq (x y : Lst) : Bool := (x.kind == y.kind) && ((x.player == y.player) && (((x.play.row == y.play.row) && ((x.play.col == y.play.col) && ((x.play.down == y.play.down) && ((x.play.word.toList == y.play.word.toList) && true)))) && ((x.before.toList == y.before.toList) && ((x.drawn.toList == y.drawn.toList) && ((x.score == y.score) && ((x.zeros == y.zeros) && true))))))
theorem eql_lasts (x y : Lst) (w : World) :
    (binOp .eql 49 (.agg #[.int .i64 x.kind, .int .i64 x.player, .int .i64 x.play.row, .int .i64 x.play.col, .bool x.play.down, .string x.play.word, .string x.before, .string x.drawn, .int .i64 x.score, .int .i64 x.zeros]) (.agg #[.int .i64 y.kind, .int .i64 y.player, .int .i64 y.play.row, .int .i64 y.play.col, .bool y.play.down, .string y.play.word, .string y.before, .string y.drawn, .int .i64 y.score, .int .i64 y.zeros])).run Try.prog w = .ok (.bool (lastEq x y)) w := by
  rw [run_eql_struct]
  have h1 : Try.prog.underlying 49 = some (.struct (Try.prog.fieldsOf 49)) := by kernel_rfl
  have h2 : Try.prog.stoodInHeld 49 = false := by kernel_rfl
  rw [run_equalIn_agg w 9999 49 _ _ h1 h2]
  have hu := uLast
  have key : (Op.eqFields 9999 #[.int .i64 x.kind, .int .i64 x.player, .int .i64 x.play.row, .int .i64 x.play.col, .bool x.play.down, .string x.play.word, .string x.before, .string x.drawn, .int .i64 x.score, .int .i64 x.zeros] #[.int .i64 y.kind, .int .i64 y.player, .int .i64 y.play.row, .int .i64 y.play.col, .bool y.play.down, .string y.play.word, .string y.before, .string y.drawn, .int .i64 y.score, .int .i64 y.zeros] (Try.prog.fieldsOf 49).toList).run Try.prog w = .ok (lastEq x y) w := by
    match h : (Try.prog.fieldsOf 49).toList with
    | [f0, f1, f2, f3, f4, f5, f6] =>
      rw [h] at hu
      simp only [List.map_cons, List.map_nil, List.cons.injEq, and_true] at hu
      obtain ⟨e0, e1, e2, e3, e4, e5, e6⟩ := hu
      unfold lastEq
      refine eqF_int e0 (by decide) rfl rfl (eqF_int e1 (by decide) rfl rfl ?_)
      simp only [Prod.mk.injEq] at e2
      obtain ⟨n2, t2, o2⟩ := e2
      refine eqF_cons (by rw [n2]; decide) (a := .agg #[.int .i64 x.play.row, .int .i64 x.play.col, .bool x.play.down, .string x.play.word]) (b := .agg #[.int .i64 y.play.row, .int .i64 y.play.col, .bool y.play.down, .string y.play.word]) ?_ ?_ ?_ ?_
      · rw [t2, o2]; exact part_play _ 2 _ rfl w
      · rw [t2, o2]; exact part_play _ 2 _ rfl w
      · rw [t2]; exact equalIn_play 9997 x.play.row y.play.row x.play.col y.play.col x.play.down y.play.down x.play.word y.play.word w
      · exact eqF_str e3 (by decide) rfl rfl (eqF_str e4 (by decide) rfl rfl (eqF_int e5 (by decide) rfl rfl (eqF_int e6 (by decide) rfl rfl rfl)))
    | [] | [_] | [_, _] | [_, _, _] | [_, _, _, _] | [_, _, _, _, _] | [_, _, _, _, _, _] | _ :: _ :: _ :: _ :: _ :: _ :: _ :: _ :: _ => rw [h] at hu; simp at hu
  rw [key]
  rfl
def boardSame (x y : Brd) : Bool := boardEq x.size y.size x.premium y.premium x.cells y.cells
def sameS (x y : Stp) : Bool := sameT x.tiles y.tiles && (decide (x.lexicon = y.lexicon) && (boardSame x.board y.board && (!(x.seconds != y.seconds) && !(x.rule != y.rule))))
/-- as the reference asks -/
def sameG (x y : Gam) : Bool := sameS x.setup y.setup && (boardSame x.board y.board && ((x.bag.toList == y.bag.toList) && (decide (x.racks = y.racks) && (decide (x.scores = y.scores) && (decide (x.clocks = y.clocks) && ((x.player == y.player) && ((x.zeros == y.zeros) && (lastEq x.last y.last && (x.over == y.over)))))))))
/-- as the program asks -/
theorem sameG_eq (x y : Gam) : sameG x y = (sameS x.setup y.setup && ((decide (x.racks = y.racks) && (decide (x.scores = y.scores) && decide (x.clocks = y.clocks))) && (boardSame x.board y.board && ((x.bag.toList == y.bag.toList) && ((x.player == y.player) && ((x.zeros == y.zeros) && (lastEq x.last y.last && (x.over == y.over)))))))) := by
  unfold sameG
  ac_rfl
set_option maxRecDepth 100000 in
set_option maxHeartbeats 8000000 in
theorem l02Same_any (x y : Tls) (p q : TlA) (g g2 : Nat) (w : World) (ha : x.At p w) (hc : y.At q w) (hf : x.fit) (hg : y.fit)
    (c0 : w.cell? ⟨g, 0, none⟩ = some (.string x.letters)) (c1 : w.cell? ⟨g, 1, none⟩ = some (.slice p.values.a x.values.length p.values.c)) (c2 : w.cell? ⟨g, 2, none⟩ = some (.slice p.counts.a x.counts.length p.counts.c)) (c3 : w.cell? ⟨g, 3, none⟩ = some (.int .i64 x.blanks))
    (d0 : w.cell? ⟨g2, 0, none⟩ = some (.string y.letters)) (d1 : w.cell? ⟨g2, 1, none⟩ = some (.slice q.values.a y.values.length q.values.c)) (d2 : w.cell? ⟨g2, 2, none⟩ = some (.slice q.counts.a y.counts.length q.counts.c)) (d3 : w.cell? ⟨g2, 3, none⟩ = some (.int .i64 y.blanks)) :
    Calls Try.prog 19 #[.pointer (some ⟨g, 0, none⟩), .pointer (some ⟨g2, 0, none⟩)] w fun e w' => e = .returned (.bool (sameT x y)) ∧ Below w.heap.size w w' := by
  have HS : Hid (sameT x y = ((x.letters.toList == y.letters.toList) && decide (x.values = y.values) && decide (x.counts = y.counts) && (x.blanks == y.blanks))) := Lib.hid rfl
  have H1 : Hid (∀ n, Calls Try.prog 21 #[.slice p.values.a x.values.length p.values.c, .slice q.values.a y.values.length q.values.c] (w.drewN n) fun e w' => e = .returned (.bool (decide (x.values = y.values))) ∧ Drew (w.drewN n) w') := Lib.hid (fun n => l00Same_any x.values y.values p.values.a q.values.a p.values.c q.values.c _ (ha.1.kept ((Drew.drewN (Drew.refl _) n).below _)) (hc.1.kept ((Drew.drewN (Drew.refl _) n).below _)) hf.2.1 hg.2.1)
  have H2 : Hid (∀ n, Calls Try.prog 21 #[.slice p.counts.a x.counts.length p.counts.c, .slice q.counts.a y.counts.length q.counts.c] (w.drewN n) fun e w' => e = .returned (.bool (decide (x.counts = y.counts))) ∧ Drew (w.drewN n) w') := Lib.hid (fun n => l00Same_any x.counts y.counts p.counts.a q.counts.a p.counts.c q.counts.c _ (ha.2.kept ((Drew.drewN (Drew.refl _) n).below _)) (hc.2.kept ((Drew.drewN (Drew.refl _) n).below _)) hf.2.2 hg.2.2)
  clear ha hc hf hg
  have hx : ∀ n, Below w.heap.size w (w.drewN n) := fun n => (Drew.drewN (Drew.refl _) n).below _
  have HX := Lib.hid hx; clear hx
  generalize x.values.length = n1 at *
  generalize y.values.length = n2 at *
  generalize x.counts.length = n3 at *
  generalize y.counts.length = n4 at *
  generalize decide (x.values = y.values) = b1 at *
  generalize decide (x.counts = y.counts) = b2 at *
  cases h0 : x.letters.toList == y.letters.toList with
  | false =>
    have HN : Hid (sameT x y = false) := Lib.hid (by rw [HS.out, h0]; rfl)
    go_enter Try.func19, Try.ntmps19
    go_upto_region 1 with fail
    go_quiet (fail)
    have hb := HX.out nq
    generalize w.drewN nq = w9 at *
    go_wp2
    go_ret
    exact ⟨ret_bool HN.out.symm, hb⟩
  | true =>
    cases b1 with
    | false =>
      have HN : Hid (sameT x y = false) := Lib.hid (by rw [HS.out, h0]; rfl)
      go_enter Try.func19, Try.ntmps19
      go_upto_region 1 with fail
      go_quiet ((go_at_call 21; with_reducible exact quiet_of_drew (H1.out _)))
      have hb := HX.out nq
      generalize w.drewN nq = w9 at *
      go_wp2
      go_ret
      exact ⟨ret_bool HN.out.symm, hb⟩
    | true =>
      cases b2 with
      | false =>
        have HN : Hid (sameT x y = false) := Lib.hid (by rw [HS.out, h0]; rfl)
        go_enter Try.func19, Try.ntmps19
        go_upto_region 1 with fail
        go_quiet ((go_at_call 21; first | with_reducible exact quiet_of_drew (H1.out _) | with_reducible exact quiet_of_drew (H2.out _)))
        have hb := HX.out nq
        generalize w.drewN nq = w9 at *
        go_wp2
        go_ret
        exact ⟨ret_bool HN.out.symm, hb⟩
      | true =>
        have HN : Hid (sameT x y = (x.blanks == y.blanks)) := Lib.hid (by rw [HS.out, h0]; rfl)
        go_enter Try.func19, Try.ntmps19
        go_upto_region 1 with fail
        go_quiet ((go_at_call 21; first | with_reducible exact quiet_of_drew (H1.out _) | with_reducible exact quiet_of_drew (H2.out _)))
        have hb := HX.out nq
        generalize w.drewN nq = w9 at *
        go_wp2
        go_ret
        exact ⟨ret_bool HN.out.symm, hb⟩
end Go.Proofs.Ytalnbgcdhcnjfaa
