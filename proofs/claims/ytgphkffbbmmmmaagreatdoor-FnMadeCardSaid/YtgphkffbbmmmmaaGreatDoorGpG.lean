/- Contracts: copies of rows (append to an empty row, slices.Clone), and of a game: the reference. Rows of 2^20 elements at most. · Plain lemmas: a game in a box of the call's own, whose rows lie behind the box: what a store leaves. No condition. · Plain lemmas: a region that draws its order and holds calls that are apart: one step a call, in whatever order; rows that lie apart. No condition. · Contracts: copies of tile sets, setups and games: the reference. Rows of 2^20 elements at most. · Contracts: copies of setups: the reference. Rows of 2^20 elements at most. -/
import Derived.Test.YtgphkffbbmmmmaaGreatDoorGmQ
import Derived.Test.YtgphkffbbmmmmaaGreatDoorGmW
import Derived.Test.YtgphkffbbmmmmaaGreatDoorScE
import Derived.Deep.DeepMust
import Derived.Deep.MidRow
namespace Go.Proofs.YtgphkffbbmmmmaaGreatDoor
open Go.ChangeShapes Go.WideShapes Go.ChangeAt Go.RowKit Go.Sort

theorem slice_newsC {α:Type} {w:World} {enc:α→List Value} (he:∀ x,(enc x).length=1) {b off:Nat} {xs:List α} (hc:CellsAt w 1 enc b off xs) :
  ∀ j u,(xs.flatMap enc)[j]?=some u→w.cell? ((⟨b,off,none⟩:Addr).add j)=some u:=by
 intro j u hu
 rw [Addr.add_mid]
 have hj:j < xs.length:=by
  have h1:=(List.getElem?_eq_some_iff.1 hu).1
  rw [flatMap_len he] at h1
  omega
 have h3:=flatMap_get he xs hj (j:=0) (by omega)
 have h2:=hc j hj 0 u (by rw [← hu,← h3];simp)
 simpa using h2
/-- append of a row to an empty row of the call's own -/
theorem run_copy {P:Program} {w:World} {α:Type} {enc:α→List Value} (he:∀ x,(enc x).length=1) (hone:∀ x,∀ u∈enc x,u.oneCell'=true)
  (t ty:TypeId) (base:Nat) (e:TypeId) (i:TypeInfo) (z:Value) (bytes:Nat) (ht:P.underlying t=some (.slice e)) (hi:P.info? e=some i) (hz:i.zero=some z)
  (hsize:i.size=1) (hby:i.bytes=bytes) (hzs:z.cells.size=1) (hbs:bytes≤1024)
  (g:Nat) (hown:w.ownsRow base e 1 (.slice (some ⟨g,0,none⟩) 0 0) 0 []) (xs:List α) (a:Option Addr) (c:Nat) (hs:SliceAt w 1 enc a xs) (hl:xs.length≤1048576) (hbase:base≤w.heap.size) :
  ∃ g2 cap w',(Builtin.append_ #[t,t] ty #[.slice (some ⟨g,0,none⟩) 0 0,.slice a xs.length c]).run P w=.ok (.slice (some ⟨g2,0,none⟩) xs.length cap) w' ∧
   w'.ownsRow base e 1 (.slice (some ⟨g2,0,none⟩) xs.length cap) xs.length (xs.flatMap enc)∧w.grownBy w' (some g)∧(g2=g∨g2=w.heap.size):=by
 cases xs with
 | nil =>
  refine ⟨g,0,w,?_,hown,⟨rfl,rfl,rfl,Nat.le_refl _,fun _ _ _=>rfl⟩,.inl rfl⟩
  cases a<;>simp [Builtin.append_,Builtin.firstCells,Builtin.lenOf,ht,hi,underlying,sizeOf,typeInfo,loadCells,loadCellsFrom,storeCells]
 | cons x xs =>
  obtain ⟨b,off,rfl,hc⟩:=hs.open (show 0 < (x :: xs).length by simp)
  have hcells:=slice_newsC he hc
  have h1:∀ u∈(x :: xs).flatMap enc,u.oneCell'=true:=by
   intro u hu
   obtain ⟨y,_,hy⟩:=List.mem_flatMap.1 hu
   exact hone y u hy
  obtain ⟨g2,cap,w',hr,h2,h3,h4,_⟩:=run_append_lies (P:=P) (w:=w) t ty base e i z 1 bytes ht hi hz hsize hby hzs (by decide) _ 0 [] hown ⟨b,off,none⟩ (x :: xs).length c ((x :: xs).flatMap enc) (by rw [flatMap_len he]) hcells h1 (by simp) (by unfold maxLen;omega) (by
   have h3:=Nat.mul_le_mul hl hbs
   rw [Nat.zero_add]
   omega) hbase _ rfl
  rw [Nat.zero_add] at hr h2
  exact ⟨g2,cap,w',hr,h2,h3,h4.imp (fun e=>(Option.some.inj e).symm) id⟩
theorem wp_copy {P:Program} {w:World} {o:Oper} {act:Act} {K:Act→World→Prop} {Q:Exit→Act→World→Prop} {α:Type} {enc:α→List Value} (he:∀ x,(enc x).length=1) (hone:∀ x,∀ u∈enc x,u.oneCell'=true)
  (s x:Operand) (t:TypeId) (ho:o.op=.call { callee:=.builtin .append,args:=#[s,x],argTypes:=#[t,t] })
  (base:Nat) (e:TypeId) (i:TypeInfo) (z:Value) (bytes:Nat) (ht:P.underlying t=some (.slice e)) (hi:P.info? e=some i) (hz:i.zero=some z)
  (hsize:i.size=1) (hby:i.bytes=bytes) (hzs:z.cells.size=1) (hbs:bytes≤1024)
  (g:Nat) (hown:w.ownsRow base e 1 (.slice (some ⟨g,0,none⟩) 0 0) 0 []) (xs:List α) (a:Option Addr) (c:Nat) (hs:SliceAt w 1 enc a xs) (hl:xs.length≤1048576) (hbase:base≤w.heap.size)
  (h1:act.eval s=.slice (some ⟨g,0,none⟩) 0 0) (h2:act.eval x=.slice a xs.length c)
  (h:∀ g2 cap w',w'.ownsRow base e 1 (.slice (some ⟨g2,0,none⟩) xs.length cap) xs.length (xs.flatMap enc)→w.grownBy w' (some g)→(g2=g∨g2=w.heap.size)→K (act.put o.dst (.slice (some ⟨g2,0,none⟩) xs.length cap)) w'):o.wp P act w K Q:=by
 obtain ⟨g2,cap,w',hr,k2,k3,k4⟩:=run_copy (P:=P) (w:=w) he hone t o.type base e i z bytes ht hi hz hsize hby hzs hbs g hown xs a c hs hl hbase
 unfold Oper.wp execOp
 simp only [ho,resolve,invoke,builtin,Sem.run_bind,Sem.run_pure,Result.andThen_ok,List.map_toArray,List.map_cons,List.map_nil,h1,h2,hr]
 exact h g2 cap w' k2 k3 k4
theorem wpList_copy {P:Program} {w:World} {ops:Array Oper} {rest:List Oper} {o:Oper} {act:Act} {Q:Exit→Act→World→Prop} {α:Type} {enc:α→List Value} (he:∀ x,(enc x).length=1) (hone:∀ x,∀ u∈enc x,u.oneCell'=true) (hgd:o.guard=none)
  (s x:Operand) (t:TypeId) (ho:o.op=.call { callee:=.builtin .append,args:=#[s,x],argTypes:=#[t,t] })
  (base:Nat) (e:TypeId) (i:TypeInfo) (z:Value) (bytes:Nat) (ht:P.underlying t=some (.slice e)) (hi:P.info? e=some i) (hz:i.zero=some z)
  (hsize:i.size=1) (hby:i.bytes=bytes) (hzs:z.cells.size=1) (hbs:bytes≤1024)
  (g:Nat) (hown:w.ownsRow base e 1 (.slice (some ⟨g,0,none⟩) 0 0) 0 []) (xs:List α) (a:Option Addr) (c:Nat) (hs:SliceAt w 1 enc a xs) (hl:xs.length≤1048576) (hbase:base≤w.heap.size)
  (h1:act.eval s=.slice (some ⟨g,0,none⟩) 0 0) (h2:act.eval x=.slice a xs.length c)
  (h:∀ g2 cap w',w'.ownsRow base e 1 (.slice (some ⟨g2,0,none⟩) xs.length cap) xs.length (xs.flatMap enc)→w.grownBy w' (some g)→(g2=g∨g2=w.heap.size)→wpList P ops Q rest (act.put o.dst (.slice (some ⟨g2,0,none⟩) xs.length cap)) w'):wpList P ops Q (o :: rest) act w :=
 wpList_plain hgd fun _ hK=>wp_copy he hone s x t ho base e i z bytes ht hi hz hsize hby hzs hbs g hown xs a c hs hl hbase h1 h2 fun g2 cap w' k2 k3 k4=>hK _ _ (h g2 cap w' k2 k3 k4)
theorem step_store {P:Program} {w:World} {ops:Array Oper} {o:Oper} {act:Act} {K:Act→World→Prop} {Q:Exit→Act→World→Prop} {E:Prop} (hgd:o.guard=none) (ty:TypeId) (x y:Operand) (ho:o.op=.store ty x y)
  (b off:Nat) (cells:Array Value) (hx:act.eval x=.pointer (some ⟨b,off,none⟩)) (hy:act.eval y=.agg cells)
  (ht:w.there b off cells.size) (hi:(P.info? ty).map (·.size)=some cells.size) (h1:cells.all (·.oneCell')=true)
  (h:K (act.put o.dst undef) (w.setCells b off cells.toList)):if Region.wanted o (yielded ops act.tmps)=true then Oper.wp P o act w K Q else E:=by
 have hw:Region.wanted o (yielded ops act.tmps)=true:=by simp [Region.wanted,hgd]
 rw [if_pos hw]
 exact wp_store_mid ty x y ho b off cells hx hy ht hi h1 h
/-- an empty row of the call's own -/
theorem own_empty (w:World) (e:TypeId):(w.alloc (.cells #[] e)).ownsRow w.heap.size e 1 (.slice (some ⟨w.heap.size,0,none⟩) 0 0) 0 [] :=
 World.ownsRow_made (base:=w.heap.size) (e:=e) (size:=1) w #[] 0 (Nat.le_refl _) (by unfold maxLen;omega) rfl
end Go.Proofs.YtgphkffbbmmmmaaGreatDoor

namespace Go.Proofs.YtgphkffbbmmmmaaGreatDoor
open Go.ChangeShapes Go.WideShapes Go.ChangeAt Go.RowKit Go.Sort

theorem TZ.store {w w':World} {base c g:Nat} {a:Option Addr} {ms:List ByteArray} (h:TZ w base a c ms) (hg:w.grownBy w' (some g)) (hlt:g < base):TZ w' base a c ms:=h.imp_right fun h=>row_store h hg hlt
theorem IZ.store {w w':World} {base c g:Nat} {a:Option Addr} {ms:List Int} (h:IZ w base a c ms) (hg:w.grownBy w' (some g)) (hlt:g < base):IZ w' base a c ms:=h.imp_right fun h=>row_store h hg hlt
theorem Stp.Z.store {x:Stp} {q:StA} {base g:Nat} {w w':World} (h:x.Z q base w) (hg:w.grownBy w' (some g)) (hlt:g < base):x.Z q base w':=⟨h.values.store hg hlt,h.counts.store hg hlt,h.lexicon.store hg hlt⟩
theorem Gam.Z.store {x:Gam} {q:GaA} {base g:Nat} {w w':World} (h:x.Z q base w) (hg:w.grownBy w' (some g)) (hlt:g < base):x.Z q base w':=⟨h.setup.store hg hlt,h.racks.store hg hlt,h.scores.store hg hlt,h.clocks.store hg hlt⟩
/-- a game in a box, its rows in other blocks -/
structure GBox (w:World) (base g:Nat) (x:Gam) (q:GaA):Prop where
 var:VarAt w g 37 (gcells x q)
 rows:x.Z q base w
 off:x.Off q
 lo:base≤g
 sep:∀ t∈x.effs q,offA (some ⟨g,0,none⟩) t
theorem GBox.kept {w w':World} {base g:Nat} {x:Gam} {q:GaA} (h:GBox w base g x q) (hb:Below w.heap.size w w'):GBox w' base g x q:=⟨h.var.kept hb,h.rows.kept hb,h.off,h.lo,h.sep⟩
theorem GBox.gat {w:World} {base g:Nat} {x:Gam} {q:GaA} (h:GBox w base g x q):GAt w g x q:=⟨h.var.range,h.rows.at⟩
theorem GBox.cell {w:World} {base g:Nat} {x:Gam} {q:GaA} (h:GBox w base g x q) {i:Nat} {v:Value} (hi:(gcells x q)[i]?=some v):w.cell? ⟨g,i,none⟩=some v:=h.var.cell hi
theorem GBox.free {w:World} {base g:Nat} {x:Gam} {q:GaA} (h:GBox w base g x q) (i:Nat):w.frozen? ⟨g,i,none⟩=false:=h.var.free i
theorem GBox.size {w:World} {base g:Nat} {x:Gam} {q:GaA} (h:GBox w base g x q):base≤w.heap.size:=by have h1:=h.var.lt;have h2:=h.lo;omega
theorem GBox.mono {w:World} {base base' g:Nat} {x:Gam} {q:GaA} (h:GBox w base g x q) (hb:base'≤base):GBox w base' g x q:=⟨h.var,h.rows.mono hb,h.off,Nat.le_trans hb h.lo,h.sep⟩
/-- a game is put into a box that is made behind its rows -/
theorem GBox.new {w:World} {base:Nat} {x:Gam} {q:GaA} (hz:x.Z q base w) (ho:x.Off q) (hb:base≤w.heap.size):GBox (w.alloc (.cells (gcells x q).toArray 37)) base w.heap.size x q :=
 ⟨VarAt.new w _ _,hz.kept ((Below.refl _ _).alloc (Nat.le_refl _) _),ho,hb,fun t ht=>(off_of_lt (fun g hg=>(hz.lt t ht g hg).2) (fun g hg=>by cases hg;exact Nat.le_refl _)).symm⟩
theorem wrote_box {w w':World} {base g:Nat} (hg:w.grownBy w' (some g)) (h1:base≤w.heap.size) (h2:base≤g):Wrote base [some ⟨g,0,none⟩] w w':=Wrote.of_grown (a:=some ⟨g,0,none⟩) (n:=1) (c:=1) hg h1 (fun k hk=>by cases hk;exact h2)
/-- other games that have the same rows -/
structure Gam.Rows (x y:Gam):Prop where
 setup:y.setup.tiles.values=x.setup.tiles.values∧y.setup.tiles.counts=x.setup.tiles.counts∧y.setup.lexicon=x.setup.lexicon
 racks:y.racks=x.racks
 scores:y.scores=x.scores
 clocks:y.clocks=x.clocks
theorem Gam.Rows.z {x y:Gam} (h:x.Rows y) {q:GaA} {base:Nat} {w:World} (hz:x.Z q base w):y.Z q base w:=by
 obtain ⟨⟨h1,h2,h3⟩,h4,h5,h6⟩:=h
 exact ⟨⟨by rw [h1];exact hz.setup.values,by rw [h2];exact hz.setup.counts,by rw [h3];exact hz.setup.lexicon⟩,by rw [h4];exact hz.racks,by rw [h5];exact hz.scores,by rw [h6];exact hz.clocks⟩
theorem Gam.Rows.effs {x y:Gam} (h:x.Rows y) (q:GaA):y.setup.effs q.setup=x.setup.effs q.setup:=by
 obtain ⟨⟨h1,h2,h3⟩,h4,h5,h6⟩:=h
 unfold Stp.effs
 rw [h1,h2,h3]
theorem Gam.Rows.effs2 {x y:Gam} (h:x.Rows y) (q:GaA):y.effs q=x.effs q:=by
 unfold Gam.effs
 rw [h.effs q,h.racks,h.scores,h.clocks]
theorem Gam.Rows.off {x y:Gam} (h:x.Rows y) {q:GaA} (hz:x.Off q):y.Off q:=by
 have he:=h.effs q
 obtain ⟨⟨h1,h2,h3⟩,h4,h5,h6⟩:=h
 exact ⟨⟨by rw [h1,h2];exact hz.setup.vc,by rw [h1,h3];exact hz.setup.vl,by rw [h2,h3];exact hz.setup.cl⟩,by rw [he,h4];exact hz.sr,by rw [he,h5];exact hz.ss,by rw [he,h6];exact hz.sc,by rw [h4,h5];exact hz.rs,by rw [h4,h6];exact hz.rc,by rw [h5,h6];exact hz.cs⟩
/-- cells of the box are stored -/
theorem GBox.puts {w:World} {base g:Nat} {x y:Gam} {q:GaA} (h:GBox w base g x q) (o:Nat) (vs:List Value) (hc:setR (gcells x q) o vs=gcells y q) (hr:x.Rows y):GBox (w.setCells g o vs) base g y q∧Below base w (w.setCells g o vs):=by
 have h1:=set_cells g _ vs o w _ h.var
 have h2:=wrote_box h1 h.size h.lo
 refine ⟨⟨(VarAt.setMany vs o h.var).as hc,hr.z (h.rows.wrote h2 (fun s hs t ht=>by rw [List.mem_singleton.1 hs];exact h.sep t ht)),hr.off h.off,h.lo,?_⟩,h2.below⟩
 rw [hr.effs2 q]
 exact h.sep
theorem GBox.put {w:World} {base g:Nat} {x y:Gam} {q:GaA} (h:GBox w base g x q) (o:Nat) (v:Value) (hc:(gcells x q).set o v=gcells y q) (hr:x.Rows y):GBox (w.setCell ⟨g,o,none⟩ v) base g y q∧Below base w (w.setCell ⟨g,o,none⟩ v):=h.puts o [v] hc hr
/-- where a row that has elements lies -/
theorem IZ.block {w:World} {base c:Nat} {a:Option Addr} {ms:List Int} (h:IZ w base a c ms) (hne:0 < ms.length):∃ gb,a=some ⟨gb,0,none⟩∧base≤gb∧gb < w.heap.size∧w.ownsRow base 2 1 (.slice (some ⟨gb,0,none⟩) ms.length c) ms.length (ms.flatMap I64.enc):=by
 have ho:=h.resolve_left (by intro e;subst e;simp at hne)
 rcases ho.2 with ⟨hv,h0⟩ | ⟨gb,cap,cur,hv,r⟩
 ·omega
 ·simp only [Value.slice.injEq] at hv
  obtain ⟨rfl,_,rfl⟩:=hv
  exact ⟨gb,rfl,(ho.lt gb rfl).1,(ho.lt gb rfl).2,ho⟩
theorem TZ.block {w:World} {base c:Nat} {a:Option Addr} {ms:List ByteArray} (h:TZ w base a c ms) (hne:0 < ms.length):∃ gb,a=some ⟨gb,0,none⟩∧base≤gb∧gb < w.heap.size∧w.ownsRow base 9 1 (.slice (some ⟨gb,0,none⟩) ms.length c) ms.length (ms.flatMap Tx.enc):=by
 have ho:=h.resolve_left (by intro e;subst e;simp at hne)
 rcases ho.2 with ⟨hv,h0⟩ | ⟨gb,cap,cur,hv,r⟩
 ·omega
 ·simp only [Value.slice.injEq] at hv
  obtain ⟨rfl,_,rfl⟩:=hv
  exact ⟨gb,rfl,(ho.lt gb rfl).1,(ho.lt gb rfl).2,ho⟩
theorem enc_set1 {α:Type} {enc:α→List Value} {f:α→Value} (he:∀ x,enc x=[f x]):∀ (xs:List α) (k:Nat) (v:α),(xs.flatMap enc).set k (f v)=(xs.set k v).flatMap enc
 | [],_,_=>by simp
 | x :: xs,0,v=>by simp [he]
 | x :: xs,k+1,v=>by
  rw [List.set_cons_succ,List.flatMap_cons,List.flatMap_cons,he x,← enc_set1 he xs k v]
  rfl
theorem IZ.setAt {w:World} {base c gb:Nat} {ms:List Int} (h:w.ownsRow base 2 1 (.slice (some ⟨gb,0,none⟩) ms.length c) ms.length (ms.flatMap I64.enc)) (k:Nat) (v:Int) (hlo:base≤w.heap.size):IZ (w.setCell ⟨gb,k,none⟩ (.int .i64 v)) base (some ⟨gb,0,none⟩) c (ms.set k v)∧Wrote base [some ⟨gb,0,none⟩] w (w.setCell ⟨gb,k,none⟩ (.int .i64 v))∧w.grownBy (w.setCell ⟨gb,k,none⟩ (.int .i64 v)) (some gb):=by
 obtain ⟨h1,h2⟩:=World.ownsRow.stored h k (.int .i64 v)
 refine ⟨.inr ?_,Wrote.of_grown (a:=some ⟨gb,0,none⟩) (n:=ms.length) (c:=c) h2 hlo (fun g e=>?_),h2⟩
 ·rw [List.length_set,← enc_set1 (enc:=I64.enc) (f:=fun v=>.int .i64 v) (fun _=>rfl) ms k v]
  exact h1
 ·cases e
  exact (h.lt gb rfl).1
theorem TZ.setAt {w:World} {base c gb:Nat} {ms:List ByteArray} (h:w.ownsRow base 9 1 (.slice (some ⟨gb,0,none⟩) ms.length c) ms.length (ms.flatMap Tx.enc)) (k:Nat) (v:ByteArray) (hlo:base≤w.heap.size):TZ (w.setCell ⟨gb,k,none⟩ (.string v)) base (some ⟨gb,0,none⟩) c (ms.set k v)∧Wrote base [some ⟨gb,0,none⟩] w (w.setCell ⟨gb,k,none⟩ (.string v))∧w.grownBy (w.setCell ⟨gb,k,none⟩ (.string v)) (some gb):=by
 obtain ⟨h1,h2⟩:=World.ownsRow.stored h k (.string v)
 refine ⟨.inr ?_,Wrote.of_grown (a:=some ⟨gb,0,none⟩) (n:=ms.length) (c:=c) h2 hlo (fun g e=>?_),h2⟩
 ·rw [List.length_set,← enc_set1 (enc:=Tx.enc) (f:=fun v=>.string v) (fun _=>rfl) ms k v]
  exact h1
 ·cases e
  exact (h.lt gb rfl).1
/-- clocks of the box is written -/
theorem GBox.clock {w:World} {base g gb:Nat} {x:Gam} {q:GaA} (h:GBox w base g x q) (ha:q.clocks.a=some ⟨gb,0,none⟩) (hk:0 < x.clocks.length) (k:Nat) (v:Int):GBox (w.setCell ⟨gb,k,none⟩ (.int .i64 v)) base g { x with clocks:=x.clocks.set k v } q∧Below base w (w.setCell ⟨gb,k,none⟩ (.int .i64 v)):=by
 obtain ⟨gb2,e2,hge,hlt,ho⟩:=h.rows.clocks.block hk
 rw [ha] at e2
 cases e2
 obtain ⟨h1,h2,h3⟩:=IZ.setAt ho k v (by omega)
 have hne:x.clocks≠[]:=by intro e;rw [e] at hk;simp at hk
 have hl:(x.clocks.set k v).length=x.clocks.length:=List.length_set
 have he:effA q.clocks.a x.clocks=some ⟨gb,0,none⟩:=by rw [effA_some _ hne,ha]
 have he2:({ x with clocks:=x.clocks.set k v }:Gam).effs q=x.effs q:=by unfold Gam.effs;simp only;rw [effA_len q.clocks.a hl]
 have hm:effA q.clocks.a x.clocks∈x.effs q:=by simp [Gam.effs]
 have hgb:g≠gb:=by
  intro e
  have:=h.sep _ hm g rfl
  rw [he] at this
  exact this (by rw [e];rfl)
 have hc:gcells { x with clocks:=x.clocks.set k v } q=gcells x q:=by unfold gcells;simp only [hl]
 refine ⟨⟨?_,⟨?_,?_,?_,?_⟩,⟨h.off.setup,h.off.sr,h.off.ss,?_,h.off.rs,?_,?_⟩,h.lo,by rw [he2];exact h.sep⟩,h2.below⟩
 ·rw [hc]
  exact h.var.grown h3 (by intro e;cases e;exact hgb rfl)
 ·refine h.rows.setup.wrote h2 ?_
  intro s hs t ht
  rw [List.mem_singleton.1 hs,← he]
  exact (h.off.sc t ht).symm
 ·refine h.rows.racks.wrote h2 ?_
  intro s hs
  rw [List.mem_singleton.1 hs,← he]
  exact h.off.rc.symm
 ·refine h.rows.scores.wrote h2 ?_
  intro s hs
  rw [List.mem_singleton.1 hs,← he]
  exact h.off.cs.symm
 ·rw [ha]
  exact h1
 ·intro t ht
  show offA t (effA q.clocks.a (x.clocks.set k v))
  rw [effA_len q.clocks.a hl]
  exact h.off.sc t ht
 ·show offA _ (effA q.clocks.a (x.clocks.set k v))
  rw [effA_len q.clocks.a hl]
  exact h.off.rc
 ·show offA _ (effA q.clocks.a (x.clocks.set k v))
  rw [effA_len q.clocks.a hl]
  exact h.off.cs
/-- scores of the box is written -/
theorem GBox.score {w:World} {base g gb:Nat} {x:Gam} {q:GaA} (h:GBox w base g x q) (ha:q.scores.a=some ⟨gb,0,none⟩) (hk:0 < x.scores.length) (k:Nat) (v:Int):GBox (w.setCell ⟨gb,k,none⟩ (.int .i64 v)) base g { x with scores:=x.scores.set k v } q∧Below base w (w.setCell ⟨gb,k,none⟩ (.int .i64 v)):=by
 obtain ⟨gb2,e2,hge,hlt,ho⟩:=h.rows.scores.block hk
 rw [ha] at e2
 cases e2
 obtain ⟨h1,h2,h3⟩:=IZ.setAt ho k v (by omega)
 have hne:x.scores≠[]:=by intro e;rw [e] at hk;simp at hk
 have hl:(x.scores.set k v).length=x.scores.length:=List.length_set
 have he:effA q.scores.a x.scores=some ⟨gb,0,none⟩:=by rw [effA_some _ hne,ha]
 have he2:({ x with scores:=x.scores.set k v }:Gam).effs q=x.effs q:=by unfold Gam.effs;simp only;rw [effA_len q.scores.a hl]
 have hm:effA q.scores.a x.scores∈x.effs q:=by simp [Gam.effs]
 have hgb:g≠gb:=by
  intro e
  have:=h.sep _ hm g rfl
  rw [he] at this
  exact this (by rw [e];rfl)
 have hc:gcells { x with scores:=x.scores.set k v } q=gcells x q:=by unfold gcells;simp only [hl]
 refine ⟨⟨?_,⟨?_,?_,?_,?_⟩,⟨h.off.setup,h.off.sr,?_,h.off.sc,?_,h.off.rc,?_⟩,h.lo,by rw [he2];exact h.sep⟩,h2.below⟩
 ·rw [hc]
  exact h.var.grown h3 (by intro e;cases e;exact hgb rfl)
 ·refine h.rows.setup.wrote h2 ?_
  intro s hs t ht
  rw [List.mem_singleton.1 hs,← he]
  exact (h.off.ss t ht).symm
 ·refine h.rows.racks.wrote h2 ?_
  intro s hs
  rw [List.mem_singleton.1 hs,← he]
  exact h.off.rs.symm
 ·rw [ha]
  exact h1
 ·refine h.rows.clocks.wrote h2 ?_
  intro s hs
  rw [List.mem_singleton.1 hs,← he]
  exact h.off.cs
 ·intro t ht
  show offA t (effA q.scores.a (x.scores.set k v))
  rw [effA_len q.scores.a hl]
  exact h.off.ss t ht
 ·show offA _ (effA q.scores.a (x.scores.set k v))
  rw [effA_len q.scores.a hl]
  exact h.off.rs
 ·show offA (effA q.scores.a (x.scores.set k v)) _
  rw [effA_len q.scores.a hl]
  exact h.off.cs
/-- what lies in the blocks of the box lies in front of the world's end -/
theorem GBox.front {w:World} {base g:Nat} {x:Gam} {q:GaA} (h:GBox w base g x q) {b:Option Addr} (hb:∀ k,b.map (·.block)=some k→w.heap.size≤k):(∀ t∈x.effs q,offA t b)∧offA (some ⟨g,0,none⟩) b :=
 ⟨fun t ht=>off_of_lt (fun k hk=>(h.rows.lt t ht k hk).2) hb,off_of_lt (fun k hk=>by cases hk;exact h.var.lt) hb⟩
end Go.Proofs.YtgphkffbbmmmmaaGreatDoor

namespace Go.Proofs.YtgphkffbbmmmmaaGreatDoor
open Go.ChangeShapes Go.WideShapes Go.ChangeAt Go.RowKit Go.Sort

/-- an act with some slots filled -/
def fillA (a:Act) (ks:List Nat) (vs:Nat→Value):Act:={ a with tmps:=ks.foldl (fun t k=>t.setIfInBounds k (vs k)) a.tmps }
def upV (vs:Nat→Value) (k:Nat) (v:Value):Nat→Value:=fun j=>if j=k then v else vs j
theorem wpAnyH_states {P:Program} {md:Region.Mode} {ops:Array Oper} {Q:Exit→Act→World→Prop} {S:World→Prop} {σ:Type} {L:σ→Array Bool} {RS:σ→List Nat} {m:σ→Nat} {J:σ→(Nat→Value)→World→Prop} {ks:List Nat} {a1:Act}
  (hr:∀ s vs w,J s vs w→RS s≠[]→Region.ready md ops (L s)=RS s) (hm:∀ s,RS s≠[]→0 < m s)
  (hend:∀ s vs w n,RS s=[]→m s≤n→J s vs w→S w→wpAnyH P md ops Q S n (L s) (fillA a1 ks vs) w)
  (hstep:∀ s vs w,J s vs w→S w→∀ i∈RS s,∀ K:Act→World→Prop,Shut (∀ s' vs' w',(L s).setIfInBounds i true=L s'→m s' < m s→S w'→J s' vs' w'→K (fillA a1 ks vs') w')→wpOp P ops Q i K (fillA a1 ks vs) w) :
  ∀ n s vs w,m s≤n→J s vs w→S w→wpAnyH P md ops Q S n (L s) (fillA a1 ks vs) w:=by
 intro n
 induction n with
 | zero =>
  intro s vs w h1 h2 h3
  by_cases hs:RS s=[]
  ·exact hend s vs w 0 hs h1 h2 h3
  ·have:=hm s hs
   omega
 | succ n ih =>
  intro s vs w h1 h2 h3
  by_cases hs:RS s=[]
  ·exact hend s vs w (n+1) hs h1 h2 h3
  ·refine wpAnyH_all (hr s vs w h2 hs) hs fun i hi=>hstep s vs w h2 h3 i hi _ ?_
   show ∀ s' vs' w',_→_→_→_→_
   intro s' vs' w' hL hlt hS hJ
   refine ⟨hS,?_⟩
   rw [hL]
   exact ih s' vs' w' (by omega) hJ hS
/-- the calls of a region that are left, in whatever order -/
theorem wpAnyH_apart {P:Program} {md:Region.Mode} {ops:Array Oper} {Q:Exit→Act→World→Prop} {S:World→Prop} {σ:Type} (L:σ→Array Bool) (RS:σ→List Nat) (m:σ→Nat) (J:σ→(Nat→Value)→World→Prop) (ks:List Nat) (s0:σ) (v0:Nat→Value) {a1:Act} {listed:Array Bool} {n:Nat} {w:World}
  (h0:a1=fillA a1 ks v0) (hl:listed=L s0) (hn:m s0≤n) (hJ:J s0 v0 w) (hS:S w)
  (hr:∀ s vs w,J s vs w→RS s≠[]→Region.ready md ops (L s)=RS s) (hm:∀ s,RS s≠[]→0 < m s)
  (hend:∀ s vs w n,RS s=[]→m s≤n→J s vs w→S w→wpAnyH P md ops Q S n (L s) (fillA a1 ks vs) w)
  (hstep:∀ s vs w,J s vs w→S w→∀ i∈RS s,∀ K:Act→World→Prop,Shut (∀ s' vs' w',(L s).setIfInBounds i true=L s'→m s' < m s→S w'→J s' vs' w'→K (fillA a1 ks vs') w')→wpOp P ops Q i K (fillA a1 ks vs) w) :
  wpAnyH P md ops Q S n listed a1 w:=by
 rw [hl,h0]
 exact wpAnyH_states hr hm hend hstep n s0 v0 w hn hJ hS

/-- an operation that may come up is taken first; its slot is named -/
theorem wpAnyH_slot {P:Program} {md:Region.Mode} {ops:Array Oper} {Q:Exit→Act→World→Prop} {S:World→Prop} {i:Nat} {oi:Oper} (d:Nat) {v:Value} {fuel:Nat} {listed:Array Bool} {a:Act} {w:World} (hi:ops[i]?=some oi) (hd:oi.dst=some d)
  (hs:Region.noSelect ops=true) (hf:Region.free md ops listed i=true) (hr:(Region.ready md ops listed).contains i=true)
  (hQ:∀ c a w,Q (.panic c) (a.put oi.dst v) w→Q (.panic c) a w) (hy:YieldsIf P ops S oi v a) (hS:S w)
  (h:wpAnyH P md ops Q S fuel (listed.setIfInBounds i true) { a with tmps:=a.tmps.setIfInBounds d v } w):wpAnyH P md ops Q S (fuel+1) listed a w :=
 wpAnyH_take hi hs hf hr hQ hy hS (by rw [hd];exact h)

/-- the same, what is shown alike everywhere filled in -/
theorem slotA {P:Program} {md:Region.Mode} {ops:Array Oper} {Q:Exit→Act→World→Prop} {S:World→Prop} {oi:Oper} {fuel:Nat} {listed:Array Bool} {a:Act} {w:World} (i d:Nat) (v:Value)
  (h:wpAnyH P md ops Q S fuel (listed.setIfInBounds i true) { a with tmps:=a.tmps.setIfInBounds d v } w)
  (hi:ops[i]?=some oi:=by exact rfl) (hd:oi.dst=some d:=by exact rfl) (hs:Region.noSelect ops=true:=by kernel_rfl) (hf:Region.free md ops listed i=true:=by kernel_rfl) (hr:(Region.ready md ops listed).contains i=true:=by kernel_rfl)
  (hQ:∀ c a w,Q (.panic c) (a.put oi.dst v) w→Q (.panic c) a w:=by exact fun _ _ _ h=>h) (hy:YieldsIf P ops S oi v a:=by exact Or.inl ⟨by rfl,fun w' _=>by go_simp⟩) (hS:S w:=by assumption):wpAnyH P md ops Q S (fuel+1) listed a w :=
 wpAnyH_slot d hi hd hs hf hr hQ hy hS h
theorem S3 {α:Type}:(∀ (l:List α) (i:Nat) (x:α),l.toArray.setIfInBounds i x=(l.set i x).toArray)∧(∀ (y:α) (l:List α) (x:α),(y :: l).set 0 x=x :: l)∧∀ (y:α) (l:List α) (n:Nat) (x:α),(y :: l).set (n+1) x=y :: l.set n x :=
 ⟨fun l i x=>List.setIfInBounds_toArray l i x,fun _ _ _=>rfl,fun _ _ _ _=>rfl⟩

/-! ### Rows that lie apart -/
def Apart (N:Nat) (w:World) (D:Nat→List (Option Addr)):Prop :=
 (∀ i j,i≠j→∀ a∈D i,∀ b∈D j,offA a b)∧∀ i,∀ a∈D i,∀ g,a.map (·.block)=some g→N≤g∧g < w.heap.size
def upD (D:Nat→List (Option Addr)) (k:Nat) (T:List (Option Addr)):Nat→List (Option Addr):=fun j=>if j=k then T else D j
theorem upD_same (D:Nat→List (Option Addr)) (k:Nat) (T:List (Option Addr)):upD D k T k=T:=if_pos rfl
theorem upD_ne (D:Nat→List (Option Addr)) {k j:Nat} (T:List (Option Addr)) (h:j≠k):upD D k T j=D j:=if_neg h
theorem Apart.none (N:Nat) (w:World):Apart N w (fun _=>[]):=⟨fun _ _ _ _ h=>(List.not_mem_nil h).elim,fun _ _ h=>(List.not_mem_nil h).elim⟩
theorem Apart.le {N:Nat} {w w':World} {D:Nat→List (Option Addr)} (h:Apart N w D) (hle:w.heap.size≤w'.heap.size):Apart N w' D:=⟨h.1,fun i a ha g hg=>⟨(h.2 i a ha g hg).1,Nat.lt_of_lt_of_le (h.2 i a ha g hg).2 hle⟩⟩
theorem Apart.add {N:Nat} {w w':World} {D:Nat→List (Option Addr)} (h:Apart N w D) (k:Nat) {T:List (Option Addr)} (hN:N≤w.heap.size) (hle:w.heap.size≤w'.heap.size)
  (hT:∀ a∈T,∀ g,a.map (·.block)=some g→(w.heap.size≤g∧g < w'.heap.size)∨∃ b∈D k,b.map (·.block)=some g):Apart N w' (upD D k T):=by
 have key:∀ a∈T,∀ j,j≠k→∀ b∈D j,offA a b:=by
  intro a ha j hj b hb g h1 h2
  rcases hT a ha g h1 with ⟨h3,_⟩ | ⟨c,hc,h3⟩
  ·have:=(h.2 j b hb g h2).2
   omega
  ·exact h.1 k j (Ne.symm hj) c hc b hb g h3 h2
 refine ⟨?_,?_⟩
 ·intro i j hij a ha b hb
  by_cases hi:i=k
  ·subst hi
   rw [upD_same] at ha
   rw [upD_ne D T (Ne.symm hij)] at hb
   exact key a ha j (Ne.symm hij) b hb
  ·rw [upD_ne D T hi] at ha
   by_cases hj:j=k
   ·subst hj
    rw [upD_same] at hb
    exact (key b hb i hi a ha).symm
   ·rw [upD_ne D T hj] at hb
    exact h.1 i j hij a ha b hb
 ·intro i a ha g hg
  by_cases hi:i=k
  ·subst hi
   rw [upD_same] at ha
   rcases hT a ha g hg with ⟨h3,h4⟩ | ⟨c,hc,h3⟩
   ·omega
   ·have:=h.2 i c hc g h3
    omega
  ·rw [upD_ne D T hi] at ha
   have:=h.2 i a ha g hg
   omega
end Go.Proofs.YtgphkffbbmmmmaaGreatDoor

namespace Go.Proofs.YtgphkffbbmmmmaaGreatDoor
open Go.ChangeShapes Go.WideShapes Go.ChangeAt Go.RowKit Go.Sort

def tlCells (x:Tls) (q:TlA):List Value:=[.string x.letters,.slice q.values.a x.values.length q.values.c,.slice q.counts.a x.counts.length q.counts.c,.int .i64 x.blanks]
theorem range_cell {w:World} {g:Nat} {cs:List Value} (h:w.rangeAt g 0 cs) (i:Nat) {v:Value} (hv:cs[i]?=some v):w.cell? ⟨g,i,none⟩=some v:=by
 have:=h i v hv
 rwa [Nat.zero_add] at this
theorem range_kept {w w':World} {g o:Nat} {cs:List Value} (h:w.rangeAt g o cs) (hb:Below w.heap.size w w'):w'.rangeAt g o cs:=fun j v hv=>cell_kept (h j v hv) hb
theorem tlCells_one (x:Tls) (q:TlA):∀ v∈tlCells x q,v.oneCell'=true:=by
 intro v hv
 simp only [tlCells,List.mem_cons,List.not_mem_nil,or_false] at hv
 rcases hv with rfl | rfl | rfl | rfl<;>rfl
/-- a tile set of the call's own -/
def TlsPost (x:Tls) (w:World) (e:Ending) (w':World):Prop :=
 ∃ q:TlA,e=.returned (.agg (tlCells x q).toArray)∧IZ w' w.heap.size q.values.a q.values.c x.values∧IZ w' w.heap.size q.counts.a q.counts.c x.counts∧offA (effA q.values.a x.values) (effA q.counts.a x.counts)∧Below w.heap.size w w'
end Go.Proofs.YtgphkffbbmmmmaaGreatDoor

namespace Go.Proofs.YtgphkffbbmmmmaaGreatDoor
open Go.ChangeShapes Go.WideShapes Go.ChangeAt Go.RowKit Go.Sort

theorem SAt.scells {w:World} {g:Nat} {x:Stp} {q:StA} (h:SAt w g x q):w.rangeAt g 0 (scells x q):=by
 obtain ⟨⟨⟨h0,h1,h2,h3⟩,_⟩,h4,_,⟨h5,h6,h7⟩,h8,h9⟩:=h
 intro j v hv
 rw [Nat.zero_add]
 unfold Go.Proofs.YtgphkffbbmmmmaaGreatDoor.scells at hv
 match j,hv with
 | 0,hv=>cases hv;exact h0
 | 1,hv=>cases hv;exact h1
 | 2,hv=>cases hv;exact h2
 | 3,hv=>cases hv;exact h3
 | 4,hv=>cases hv;exact h4
 | 5,hv=>cases hv;exact h5
 | 6,hv=>cases hv;exact h6
 | 7,hv=>cases hv;exact h7
 | 8,hv=>cases hv;exact h8
 | 9,hv=>cases hv;exact h9
theorem scells_board {w:World} {g:Nat} {x:Stp} {q:StA} (h:w.rangeAt g 0 (scells x q)):w.rangeAt g 5 (Brd.enc x.board):=by
 intro j v hv
 unfold Brd.enc at hv
 match j,hv with
 | 0,hv=>cases hv;exact range_cell h 5 rfl
 | 1,hv=>cases hv;exact range_cell h 6 rfl
 | 2,hv=>cases hv;exact range_cell h 7 rfl
theorem new_row {w:World} (D:Nat→List (Option Addr)) (k:Nat) (o:Obj):∀ c∈[some (⟨w.heap.size,0,none⟩:Addr)],∀ k2,c.map (·.block)=some k2→(w.heap.size≤k2∧k2 < (w.alloc o).heap.size)∨∃ b∈D k,b.map (·.block)=some k2:=by
 intro c hc k2 hk
 rw [List.mem_singleton.1 hc] at hk
 cases hk
 exact .inl ⟨Nat.le_refl _,by simp⟩
/-- a setup of the call's own -/
def StpPost (x:Stp) (w:World) (e:Ending) (w':World):Prop :=
 ∃ q:StA,e=.returned (.agg (scells x q).toArray)∧x.Z q w.heap.size w'∧x.Off q∧Below w.heap.size w w'
end Go.Proofs.YtgphkffbbmmmmaaGreatDoor
