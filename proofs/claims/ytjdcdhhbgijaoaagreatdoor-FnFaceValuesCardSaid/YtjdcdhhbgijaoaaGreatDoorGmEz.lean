/- Contracts: what is on a square, the tiles on a board, two piles together: the program. For · Contracts: the law's own comparisons of lists: words and squares that are alike. For lists · Plays compared as structs (for a seat without games). No condition. -/
import Derived.Test.YtjdcdhhbgijaoaaGreatDoorFpP
import Derived.Test.YtjdcdhhbgijaoaaGreatDoorGmM
import Derived.Test.YtjdcdhhbgijaoaaGreatDoorLgD
import Derived.Test.YtjdcdhhbgijaoaaGreatDoorBrI
import Derived.Test.YtjdcdhhbgijaoaaGreatDoorFpI
import Derived.Laws.StructEq
import Derived.ChangeKeysEq
namespace Go.Proofs.YtjdcdhhbgijaoaaGreatDoor
open Go.ChangeShapes Go.WideShapes Go.ChangeAt Go.RowKit Go.Sort

end Go.Proofs.YtjdcdhhbgijaoaaGreatDoor
namespace Go.Proofs.YtjdcdhhbgijaoaaGreatDoor
open Go.ChangeShapes Go.WideShapes Go.ChangeAt Go.RowKit Go.Sort

theorem f6big_ct (ca : Option Addr) (n cap : Nat) (w : World) : Calls Tryz.prog 9 #[.slice ca n cap] w fun e w' => e = .returned (.bool (decide ((4096 : Int) < n))) ∧ w = w' := by
  go_enter Tryz.func9, Tryz.ntmps9
  go_wp2
  go_ret
  exact ⟨rfl, rfl⟩
theorem eqF_cons {P : Program} {d : Nat} {f : Field} {fs : List Field} {xs ys : Array Value} {a b : Value} {r s : Bool} {w : World} (hn : f.name ≠ "_") (ha : (part f.type xs f.offset).run P w = .ok a w) (hb : (part f.type ys f.offset).run P w = .ok b w)
    (hr : (Op.equalIn d f.type a b).run P w = .ok r w) (hs : (Op.eqFields d xs ys fs).run P w = .ok s w) : (Op.eqFields d xs ys (f :: fs)).run P w = .ok (r && s) w := by
  simp only [Op.eqFields, Sem.run_bind, ha, hb, hr, Result.andThen_ok, hn, ne_eq, not_false_eq_true, if_true, Sem.run_ite]
  cases r
  · simp
  · simp [hs]
theorem eqF_int {d : Nat} {f : Field} {fs : List Field} {xs ys : Array Value} {a b : Int} {s : Bool} {w : World} {n : String} {o : Nat} (hf : (f.name, f.type, f.offset) = (n, 2, o)) (hn : n ≠ "_") (ha : xs[o]? = some (.int .i64 a)) (hb : ys[o]? = some (.int .i64 b))
    (hs : (Op.eqFields (d + 1) xs ys fs).run Tryz.prog w = .ok s w) : (Op.eqFields (d + 1) xs ys (f :: fs)).run Tryz.prog w = .ok ((a == b) && s) w := by
  simp only [Prod.mk.injEq] at hf
  obtain ⟨h1, h2, h3⟩ := hf
  subst h1
  refine eqF_cons hn (a := .int .i64 a) (b := .int .i64 b) ?_ ?_ ?_ hs
  · rw [h2, h3]; exact run_part_plain w (by kernel_rfl) ha
  · rw [h2, h3]; exact run_part_plain w (by kernel_rfl) hb
  · rw [h2]; exact run_equalIn_int w d _ .i64 .i64 a b Tryz.underlying2
theorem eqF_str {d : Nat} {f : Field} {fs : List Field} {xs ys : Array Value} {a b : ByteArray} {s : Bool} {w : World} {n : String} {o : Nat} (hf : (f.name, f.type, f.offset) = (n, 9, o)) (hn : n ≠ "_") (ha : xs[o]? = some (.string a)) (hb : ys[o]? = some (.string b))
    (hs : (Op.eqFields (d + 1) xs ys fs).run Tryz.prog w = .ok s w) : (Op.eqFields (d + 1) xs ys (f :: fs)).run Tryz.prog w = .ok ((a.toList == b.toList) && s) w := by
  simp only [Prod.mk.injEq] at hf
  obtain ⟨h1, h2, h3⟩ := hf
  subst h1
  refine eqF_cons hn (a := .string a) (b := .string b) ?_ ?_ ?_ hs
  · rw [h2, h3]; exact run_part_plain w (by kernel_rfl) ha
  · rw [h2, h3]; exact run_part_plain w (by kernel_rfl) hb
  · rw [h2]; exact run_equalIn_string w d _ a b Tryz.underlying9
end Go.Proofs.YtjdcdhhbgijaoaaGreatDoor
namespace Go.Proofs.YtjdcdhhbgijaoaaGreatDoor
open Go.ChangeShapes Go.WideShapes Go.ChangeAt Go.RowKit Go.Sort

theorem eqF_bool {d : Nat} {f : Field} {fs : List Field} {xs ys : Array Value} {a b : Bool} {s : Bool} {w : World} {n : String} {o : Nat} (hf : (f.name, f.type, f.offset) = (n, 4, o)) (hn : n ≠ "_") (ha : xs[o]? = some (.bool a)) (hb : ys[o]? = some (.bool b))
    (hs : (Op.eqFields (d + 1) xs ys fs).run Tryz.prog w = .ok s w) : (Op.eqFields (d + 1) xs ys (f :: fs)).run Tryz.prog w = .ok ((a == b) && s) w := by
  simp only [Prod.mk.injEq] at hf
  obtain ⟨h1, h2, h3⟩ := hf
  subst h1
  refine eqF_cons hn (a := .bool a) (b := .bool b) ?_ ?_ ?_ hs
  · rw [h2, h3]; exact run_part_plain w (by kernel_rfl) ha
  · rw [h2, h3]; exact run_part_plain w (by kernel_rfl) hb
  · rw [h2]; exact run_equalIn_bool' w d _ a b Tryz.underlying4
theorem uPlay : (Tryz.prog.fieldsOf 30).toList.map (fun f => (f.name, f.type, f.offset)) = [("Row", 2, 0), ("Col", 2, 1), ("Down", 4, 2), ("Word", 9, 3)] := by kernel_rfl
theorem part_play (xs : Array Value) (o : Nat) (vs : Array Value) (hx : xs.extract o (o + 4) = vs) (w : World) : (part 30 xs o).run Tryz.prog w = .ok (.agg vs) w := by
  have h1 : Tryz.prog.underlying 30 = some (.struct (Tryz.prog.fieldsOf 30)) := by kernel_rfl
  unfold part
  simp [isAgg, run_underlying h1, Sem.run_bind, hx]
theorem equalIn_play (d : Nat) (r r2 c c2 : Int) (b b2 : Bool) (s s2 : ByteArray) (w : World) :
    (Op.equalIn (d + 2) 30 (.agg #[.int .i64 r, .int .i64 c, .bool b, .string s]) (.agg #[.int .i64 r2, .int .i64 c2, .bool b2, .string s2])).run Tryz.prog w = .ok ((r == r2) && ((c == c2) && ((b == b2) && ((s.toList == s2.toList) && true)))) w := by
  have h1 : Tryz.prog.underlying 30 = some (.struct (Tryz.prog.fieldsOf 30)) := by kernel_rfl
  have h2 : Tryz.prog.stoodInHeld 30 = false := by kernel_rfl
  rw [run_equalIn_agg w (d + 1) 30 _ _ h1 h2]
  have hu := uPlay
  match h : (Tryz.prog.fieldsOf 30).toList with
  | [f0, f1, f2, f3] =>
    rw [h] at hu
    simp only [List.map_cons, List.map_nil, List.cons.injEq, and_true] at hu
    obtain ⟨e0, e1, e2, e3⟩ := hu
    exact eqF_int e0 (by decide) rfl rfl (eqF_int e1 (by decide) rfl rfl (eqF_bool e2 (by decide) rfl rfl (eqF_str e3 (by decide) rfl rfl rfl)))
  | [] | [_] | [_, _] | [_, _, _] | _ :: _ :: _ :: _ :: _ :: _ => rw [h] at hu; simp at hu
end Go.Proofs.YtjdcdhhbgijaoaaGreatDoor
