/- Plain lemmas: how the model compares two boards, two last actions. No condition. -/
import Derived.Test.YtalnbgcdhcnjfaaGreatDoorBase
import Derived.Laws.StructEq
import Derived.ChangeKeysEq
namespace Go.Proofs.YtalnbgcdhcnjfaaGreatDoor
open Go.ChangeShapes Go.WideShapes Go.ChangeAt Go.RowKit Go.Sort

theorem eqF_cons {P:Program} {d:Nat} {f:Field} {fs:List Field} {xs ys:Array Value} {a b:Value} {r s:Bool} {w:World} (hn:f.name ≠ "_") (ha:(part f.type xs f.offset).run P w=.ok a w) (hb:(part f.type ys f.offset).run P w=.ok b w)
  (hr:(Op.equalIn d f.type a b).run P w=.ok r w) (hs:(Op.eqFields d xs ys fs).run P w=.ok s w):(Op.eqFields d xs ys (f :: fs)).run P w=.ok (r && s) w:=by
 simp only [Op.eqFields,Sem.run_bind,ha,hb,hr,Result.andThen_ok,hn,ne_eq,not_false_eq_true,if_true,Sem.run_ite]
 cases r
 ·simp
 ·simp [hs]
theorem eqF_int {d:Nat} {f:Field} {fs:List Field} {xs ys:Array Value} {a b:Int} {s:Bool} {w:World} {n:String} {o:Nat} (hf:(f.name,f.type,f.offset)=(n,2,o)) (hn:n ≠ "_") (ha:xs[o]?=some (.int .i64 a)) (hb:ys[o]?=some (.int .i64 b))
  (hs:(Op.eqFields (d+1) xs ys fs).run Tryz.prog w=.ok s w):(Op.eqFields (d+1) xs ys (f :: fs)).run Tryz.prog w=.ok ((a == b) && s) w:=by
 simp only [Prod.mk.injEq] at hf
 obtain ⟨h1,h2,h3⟩:=hf
 subst h1
 refine eqF_cons hn (a:=.int .i64 a) (b:=.int .i64 b) ?_ ?_ ?_ hs
 ·rw [h2,h3];exact run_part_plain w (by kernel_rfl) ha
 ·rw [h2,h3];exact run_part_plain w (by kernel_rfl) hb
 ·rw [h2];exact run_equalIn_int w d _ .i64 .i64 a b Tryz.underlying2
theorem eqF_bool {d:Nat} {f:Field} {fs:List Field} {xs ys:Array Value} {a b:Bool} {s:Bool} {w:World} {n:String} {o:Nat} (hf:(f.name,f.type,f.offset)=(n,4,o)) (hn:n ≠ "_") (ha:xs[o]?=some (.bool a)) (hb:ys[o]?=some (.bool b))
  (hs:(Op.eqFields (d+1) xs ys fs).run Tryz.prog w=.ok s w):(Op.eqFields (d+1) xs ys (f :: fs)).run Tryz.prog w=.ok ((a == b) && s) w:=by
 simp only [Prod.mk.injEq] at hf
 obtain ⟨h1,h2,h3⟩:=hf
 subst h1
 refine eqF_cons hn (a:=.bool a) (b:=.bool b) ?_ ?_ ?_ hs
 ·rw [h2,h3];exact run_part_plain w (by kernel_rfl) ha
 ·rw [h2,h3];exact run_part_plain w (by kernel_rfl) hb
 ·rw [h2];exact run_equalIn_bool' w d _ a b Tryz.underlying4
theorem eqF_str {d:Nat} {f:Field} {fs:List Field} {xs ys:Array Value} {a b:ByteArray} {s:Bool} {w:World} {n:String} {o:Nat} (hf:(f.name,f.type,f.offset)=(n,9,o)) (hn:n ≠ "_") (ha:xs[o]?=some (.string a)) (hb:ys[o]?=some (.string b))
  (hs:(Op.eqFields (d+1) xs ys fs).run Tryz.prog w=.ok s w):(Op.eqFields (d+1) xs ys (f :: fs)).run Tryz.prog w=.ok ((a.toList == b.toList) && s) w:=by
 simp only [Prod.mk.injEq] at hf
 obtain ⟨h1,h2,h3⟩:=hf
 subst h1
 refine eqF_cons hn (a:=.string a) (b:=.string b) ?_ ?_ ?_ hs
 ·rw [h2,h3];exact run_part_plain w (by kernel_rfl) ha
 ·rw [h2,h3];exact run_part_plain w (by kernel_rfl) hb
 ·rw [h2];exact run_equalIn_string w d _ a b Tryz.underlying9
theorem uBoard:(Tryz.prog.fieldsOf 44).toList.map (fun f=>(f.name,f.type,f.offset))=[("Size",2,0),("Premium",9,1),("Cells",9,2)]:=by kernel_rfl
theorem uPlay:(Tryz.prog.fieldsOf 47).toList.map (fun f=>(f.name,f.type,f.offset))=[("Row",2,0),("Col",2,1),("Down",4,2),("Word",9,3)]:=by kernel_rfl
theorem uLast:(Tryz.prog.fieldsOf 49).toList.map (fun f=>(f.name,f.type,f.offset))=[("Kind",2,0),("Player",2,1),("Play",47,2),("Before",9,6),("Drawn",9,7),("Score",2,8),("Zeros",2,9)]:=by kernel_rfl
/-- whether two boards are the same -/
def boardEq (s s2:Int) (p p2 c c2:ByteArray):Bool:=(s == s2) && ((p.toList == p2.toList) && ((c.toList == c2.toList) && true))
theorem equalIn_board (d:Nat) (s s2:Int) (p p2 c c2:ByteArray) (w:World) :
  (Op.equalIn (d+2) 44 (.agg #[.int .i64 s,.string p,.string c]) (.agg #[.int .i64 s2,.string p2,.string c2])).run Tryz.prog w=.ok (boardEq s s2 p p2 c c2) w:=by
 have h1:Tryz.prog.underlying 44=some (.struct (Tryz.prog.fieldsOf 44)):=by kernel_rfl
 have h2:Tryz.prog.stoodInHeld 44=false:=by kernel_rfl
 rw [run_equalIn_agg w (d+1) 44 _ _ h1 h2]
 have hu:=uBoard
 match h:(Tryz.prog.fieldsOf 44).toList with
 | [f0,f1,f2] =>
  rw [h] at hu
  simp only [List.map_cons,List.map_nil,List.cons.injEq,and_true] at hu
  obtain ⟨e0,e1,e2⟩:=hu
  exact eqF_int e0 (by decide) rfl rfl (eqF_str e1 (by decide) rfl rfl (eqF_str e2 (by decide) rfl rfl rfl))
 | [] | [_] | [_,_] | _ :: _ :: _ :: _ :: _=>rw [h] at hu;simp at hu
theorem eql_board (s s2:Int) (p p2 c c2:ByteArray) (w:World) :
  (binOp .eql 44 (.agg #[.int .i64 s,.string p,.string c]) (.agg #[.int .i64 s2,.string p2,.string c2])).run Tryz.prog w=.ok (.bool (boardEq s s2 p p2 c c2)) w:=by
 rw [run_eql_struct,equalIn_board 9998];rfl
theorem neq_board (s s2:Int) (p p2 c c2:ByteArray) (w:World) :
  (binOp .neq 44 (.agg #[.int .i64 s,.string p,.string c]) (.agg #[.int .i64 s2,.string p2,.string c2])).run Tryz.prog w=.ok (.bool (!boardEq s s2 p p2 c c2)) w:=by
 rw [run_neq_struct,equalIn_board 9998];rfl
theorem part_play (xs:Array Value) (o:Nat) (vs:Array Value) (hx:xs.extract o (o+4)=vs) (w:World):(part 47 xs o).run Tryz.prog w=.ok (.agg vs) w:=by
 have h1:Tryz.prog.underlying 47=some (.struct (Tryz.prog.fieldsOf 47)):=by kernel_rfl
 unfold part
 simp [isAgg,run_underlying h1,Sem.run_bind,hx]
theorem equalIn_play (d:Nat) (r r2 c c2:Int) (b b2:Bool) (s s2:ByteArray) (w:World) :
  (Op.equalIn (d+2) 47 (.agg #[.int .i64 r,.int .i64 c,.bool b,.string s]) (.agg #[.int .i64 r2,.int .i64 c2,.bool b2,.string s2])).run Tryz.prog w=.ok ((r == r2) && ((c == c2) && ((b == b2) && ((s.toList == s2.toList) && true)))) w:=by
 have h1:Tryz.prog.underlying 47=some (.struct (Tryz.prog.fieldsOf 47)):=by kernel_rfl
 have h2:Tryz.prog.stoodInHeld 47=false:=by kernel_rfl
 rw [run_equalIn_agg w (d+1) 47 _ _ h1 h2]
 have hu:=uPlay
 match h:(Tryz.prog.fieldsOf 47).toList with
 | [f0,f1,f2,f3] =>
  rw [h] at hu
  simp only [List.map_cons,List.map_nil,List.cons.injEq,and_true] at hu
  obtain ⟨e0,e1,e2,e3⟩:=hu
  exact eqF_int e0 (by decide) rfl rfl (eqF_int e1 (by decide) rfl rfl (eqF_bool e2 (by decide) rfl rfl (eqF_str e3 (by decide) rfl rfl rfl)))
 | [] | [_] | [_,_] | [_,_,_] | _ :: _ :: _ :: _ :: _ :: _=>rw [h] at hu;simp at hu
/-- whether a last action has nothing but its kind and its player -/
def bareB (a b:Int) (d:Bool) (s t u:ByteArray) (c e:Int):Bool:=((a == 0) && ((b == 0) && ((d == false) && ((s.toList == (⟨#[]⟩:ByteArray).toList) && true)))) && ((t.toList == (⟨#[]⟩:ByteArray).toList) && ((u.toList == (⟨#[]⟩:ByteArray).toList) && ((c == 0) && ((e == 0) && true))))
theorem eql_last (k r k2 r2 a b:Int) (d:Bool) (s t u:ByteArray) (c e:Int) (w:World) :
  (binOp .eql 49 (.agg #[.int .i64 k,.int .i64 r,.int .i64 a,.int .i64 b,.bool d,.string s,.string t,.string u,.int .i64 c,.int .i64 e]) (.agg #[.int .i64 k2,.int .i64 r2,.int .i64 0,.int .i64 0,.bool false,.string ⟨#[]⟩,.string ⟨#[]⟩,.string ⟨#[]⟩,.int .i64 0,.int .i64 0])).run Tryz.prog w=.ok (.bool ((k == k2) && ((r == r2) && bareB a b d s t u c e))) w:=by
 rw [run_eql_struct]
 have h1:Tryz.prog.underlying 49=some (.struct (Tryz.prog.fieldsOf 49)):=by kernel_rfl
 have h2:Tryz.prog.stoodInHeld 49=false:=by kernel_rfl
 rw [run_equalIn_agg w 9999 49 _ _ h1 h2]
 have hu:=uLast
 have key:(Op.eqFields 9999 #[.int .i64 k,.int .i64 r,.int .i64 a,.int .i64 b,.bool d,.string s,.string t,.string u,.int .i64 c,.int .i64 e] #[.int .i64 k2,.int .i64 r2,.int .i64 0,.int .i64 0,.bool false,.string ⟨#[]⟩,.string ⟨#[]⟩,.string ⟨#[]⟩,.int .i64 0,.int .i64 0] (Tryz.prog.fieldsOf 49).toList).run Tryz.prog w=.ok ((k == k2) && ((r == r2) && bareB a b d s t u c e)) w:=by
  match h:(Tryz.prog.fieldsOf 49).toList with
  | [f0,f1,f2,f3,f4,f5,f6] =>
   rw [h] at hu
   simp only [List.map_cons,List.map_nil,List.cons.injEq,and_true] at hu
   obtain ⟨e0,e1,e2,e3,e4,e5,e6⟩:=hu
   refine eqF_int e0 (by decide) rfl rfl (eqF_int e1 (by decide) rfl rfl ?_)
   unfold bareB
   simp only [Prod.mk.injEq] at e2
   obtain ⟨n2,t2,o2⟩:=e2
   refine eqF_cons (by rw [n2];decide) (a:=.agg #[.int .i64 a,.int .i64 b,.bool d,.string s]) (b:=.agg #[.int .i64 0,.int .i64 0,.bool false,.string ⟨#[]⟩]) ?_ ?_ ?_ ?_
   ·rw [t2,o2];exact part_play _ 2 _ rfl w
   ·rw [t2,o2];exact part_play _ 2 _ rfl w
   ·rw [t2];exact equalIn_play 9997 a 0 b 0 d false s ⟨#[]⟩ w
   ·exact eqF_str e3 (by decide) rfl rfl (eqF_str e4 (by decide) rfl rfl (eqF_int e5 (by decide) rfl rfl (eqF_int e6 (by decide) rfl rfl rfl)))
  | [] | [_] | [_,_] | [_,_,_] | [_,_,_,_] | [_,_,_,_,_] | [_,_,_,_,_,_] | _ :: _ :: _ :: _ :: _ :: _ :: _ :: _ :: _=>rw [h] at hu;simp at hu
 rw [key]
 rfl
end Go.Proofs.YtalnbgcdhcnjfaaGreatDoor
