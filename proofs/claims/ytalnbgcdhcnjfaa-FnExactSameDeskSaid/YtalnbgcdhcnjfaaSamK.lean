/- Steps of a region that draws its order (for a seat without the games' functions), the cells of a setup. No condition. -/
import Derived.Test.YtalnbgcdhcnjfaaDkG
import Derived.Deep.DeepMust
import Derived.Deep.MidRow
namespace Go.Proofs.Ytalnbgcdhcnjfaa
open Go.ChangeShapes Go.WideShapes Go.ChangeAt Go.RowKit Go.Sort

theorem step_store {P : Program} {w : World} {ops : Array Oper} {o : Oper} {act : Act} {K : Act → World → Prop} {Q : Exit → Act → World → Prop} {E : Prop} (hgd : o.guard = none) (ty : TypeId) (x y : Operand) (ho : o.op = .store ty x y)
    (b off : Nat) (cells : Array Value) (hx : act.eval x = .pointer (some ⟨b, off, none⟩)) (hy : act.eval y = .agg cells)
    (ht : w.there b off cells.size) (hi : (P.info? ty).map (·.size) = some cells.size) (h1 : cells.all (·.oneCell') = true)
    (h : K (act.put o.dst undef) (w.setCells b off cells.toList)) : if Region.wanted o (yielded ops act.tmps) = true then Oper.wp P o act w K Q else E := by
  have hw : Region.wanted o (yielded ops act.tmps) = true := by simp [Region.wanted, hgd]
  rw [if_pos hw]
  exact wp_store_mid ty x y ho b off cells hx hy ht hi h1 h
theorem step_store0 {P : Program} {w : World} {ops : Array Oper} {o : Oper} {act : Act} {K : Act → World → Prop} {Q : Exit → Act → World → Prop} {E : Prop} (hgd : o.guard = none) (hds : o.dst = none) (ty : TypeId) (x y : Operand) (ho : o.op = .store ty x y)
    (b off : Nat) (cells : Array Value) (hx : act.eval x = .pointer (some ⟨b, off, none⟩)) (hy : act.eval y = .agg cells)
    (ht : w.there b off cells.size) (hi : (P.info? ty).map (·.size) = some cells.size) (h1 : cells.all (·.oneCell') = true)
    (h : K act (w.setCells b off cells.toList)) : if Region.wanted o (yielded ops act.tmps) = true then Oper.wp P o act w K Q else E :=
  step_store hgd ty x y ho b off cells hx hy ht hi h1 (by rw [hds]; exact h)
theorem wpAnyH_slot {P : Program} {md : Region.Mode} {ops : Array Oper} {Q : Exit → Act → World → Prop} {S : World → Prop} {i : Nat} {oi : Oper} (d : Nat) {v : Value} {fuel : Nat} {listed : Array Bool} {a : Act} {w : World} (hi : ops[i]? = some oi) (hd : oi.dst = some d)
    (hs : Region.noSelect ops = true) (hf : Region.free md ops listed i = true) (hr : (Region.ready md ops listed).contains i = true)
    (hQ : ∀ c a w, Q (.panic c) (a.put oi.dst v) w → Q (.panic c) a w) (hy : YieldsIf P ops S oi v a) (hS : S w)
    (h : wpAnyH P md ops Q S fuel (listed.setIfInBounds i true) { a with tmps := a.tmps.setIfInBounds d v } w) : wpAnyH P md ops Q S (fuel + 1) listed a w :=
  wpAnyH_take hi hs hf hr hQ hy hS (by rw [hd]; exact h)
theorem slotA {P : Program} {md : Region.Mode} {ops : Array Oper} {Q : Exit → Act → World → Prop} {S : World → Prop} {oi : Oper} {fuel : Nat} {listed : Array Bool} {a : Act} {w : World} (i d : Nat) (v : Value)
    (h : wpAnyH P md ops Q S fuel (listed.setIfInBounds i true) { a with tmps := a.tmps.setIfInBounds d v } w)
    (hi : ops[i]? = some oi := by exact rfl) (hd : oi.dst = some d := by exact rfl) (hs : Region.noSelect ops = true := by kernel_rfl) (hf : Region.free md ops listed i = true := by kernel_rfl) (hr : (Region.ready md ops listed).contains i = true := by kernel_rfl)
    (hQ : ∀ c a w, Q (.panic c) (a.put oi.dst v) w → Q (.panic c) a w := by exact fun _ _ _ h => h) (hy : YieldsIf P ops S oi v a := by exact Or.inl ⟨by rfl, fun w' _ => by go_simp⟩) (hS : S w := by assumption) : wpAnyH P md ops Q S (fuel + 1) listed a w :=
  wpAnyH_slot d hi hd hs hf hr hQ hy hS h
theorem S3 {α : Type} : (∀ (l : List α) (i : Nat) (x : α), l.toArray.setIfInBounds i x = (l.set i x).toArray) ∧ (∀ (y : α) (l : List α) (x : α), (y :: l).set 0 x = x :: l) ∧ ∀ (y : α) (l : List α) (n : Nat) (x : α), (y :: l).set (n + 1) x = y :: l.set n x :=
  ⟨fun l i x => List.setIfInBounds_toArray l i x, fun _ _ _ => rfl, fun _ _ _ _ => rfl⟩
def scells (s : Stp) (q : StA) : List Value := [.string s.tiles.letters, .slice q.tiles.values.a s.tiles.values.length q.tiles.values.c, .slice q.tiles.counts.a s.tiles.counts.length q.tiles.counts.c, .int .i64 s.tiles.blanks, .slice q.lexicon.a s.lexicon.length q.lexicon.c, .int .i64 s.board.size, .string s.board.premium, .string s.board.cells, .int .i64 s.seconds, .int .i64 s.rule]
theorem size_setup (s : Stp) (q : StA) : (Try.prog.info? 46).map (·.size) = some (scells s q).length := by kernel_rfl
theorem scells_one (s : Stp) (q : StA) : ∀ v ∈ scells s q, v.oneCell' = true := by
  intro v hv
  simp only [scells, List.mem_cons, List.not_mem_nil, or_false] at hv
  rcases hv with rfl | rfl | rfl | rfl | rfl | rfl | rfl | rfl | rfl | rfl <;> rfl
theorem gcells_setup (x : Gam) (p : GaA) : gcells x p = scells x.setup p.setup ++ (gcells x p).drop 10 := rfl
/-- a game's variable holds its setup's cells -/
theorem range_setup {W : World} {g : Nat} {t : TypeId} {x : Gam} {p : GaA} (h : VarAt W g t (gcells x p)) : W.rangeAt g 0 (scells x.setup p.setup) := by
  intro j v hv
  refine h.range j v ?_
  rw [gcells_setup, List.getElem?_append_left (List.getElem?_eq_some_iff.1 hv).1]
  exact hv
end Go.Proofs.Ytalnbgcdhcnjfaa
