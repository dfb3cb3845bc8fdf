/- What comes in, read: a game, a setup, an action. No condition beyond the form that the statements' frame gives. -/
import Derived.Test.YtalnbgcdhcnjfaaGreatDoorFrame
import Derived.Test.YtalnbgcdhcnjfaaGreatDoorGam
set_option maxRecDepth 100000
namespace Go.Proofs.YtalnbgcdhcnjfaaGreatDoor
open Go.ChangeShapes Go.WideShapes Go.ChangeAt Go.RowKit Go.Sort Go.Joins Go.Deep

section
variable {P:Program} {H:Type} {ec:TypeId × Value→H} {w:World} {base:Nat} {spare:Nat→Bool} {held:Bool}
theorem rd_fields {e:TypeId} {fs:Array Field} {fuel:Nat} {cs:List Value} {x:DataW H × List MemPlace} (hs:P.underlying e=some (.struct fs)) (h:DataW.trod ec P w base spare held fuel e cs=some x) :
  cs.length=P.cellsOf e∧∃ n,∀ (j:Nat) (f:Field),fs[j]?=some f→∃ y:DataW H × List MemPlace,DataW.trod ec P w base spare held n f.type ((cs.drop f.offset).take (P.cellsOf f.type))=some y:=by
 obtain ⟨xs,n,_,_,hlen,hxl,hf⟩:=DataW.trod_struct hs h
 refine ⟨hlen,n,fun j f hj=>?_⟩
 have hjl:j < fs.size:=(Array.getElem?_eq_some_iff.1 hj).1
 have h1:=hf j f hj
 rw [List.getElem?_eq_getElem (by omega)] at h1
 exact ⟨_,h1⟩
theorem rd_glue {cs A:List Value} {o k:Nat} (h:(cs.drop o).take k=A):cs.drop o=A++cs.drop (o+k):=by
 rw [← h,← List.drop_drop,List.take_append_drop]
theorem rd_one {cs:List Value} {o:Nat} (h:o < cs.length):∃ v,(cs.drop o).take 1=[v]:=by
 rw [List.drop_eq_getElem_cons h]
 exact ⟨_,rfl⟩
end
section
variable {H:Type} {ec:TypeId × Value→H} {w:World} {base:Nat} {spare:Nat→Bool} {held:Bool}
instance:Inhabited ByteArray:=⟨⟨#[]⟩⟩
theorem rdText (m:Nat) (cs:List Value) (y:DataW H × List MemPlace) (h:DataW.trod ec Tryz.prog w base spare held m 9 cs=some y):∃ a:ByteArray,cs=Tx.enc a∧a.size≤9223372036854775807:=by
 obtain ⟨s0,e0,_,b0⟩:=DataW.trod_string Tryz.underlying9 h
 exact ⟨s0,e0,by unfold maxLen at b0;omega⟩
theorem rdI64 (m:Nat) (cs:List Value) (y:DataW H × List MemPlace) (h:DataW.trod ec Tryz.prog w base spare held m 2 cs=some y):∃ a:Int,cs=I64.enc a∧True:=by
 obtain ⟨x1,e1,_,_⟩:=DataW.trod_int Tryz.underlying2 h
 exact ⟨x1,e1,trivial⟩
theorem rdBit (m:Nat) (cs:List Value) (y:DataW H × List MemPlace) (h:DataW.trod ec Tryz.prog w base spare held m 4 cs=some y):∃ a:Bool,cs=[.bool a]:=by
 obtain ⟨x1,e1,_⟩:=DataW.trod_bool Tryz.underlying4 h
 exact ⟨x1,e1⟩
theorem rdInts {m:Nat} {v:Value} {y:DataW H × List MemPlace} (h:DataW.trod ec Tryz.prog w base spare held m 22 [v]=some y):∃ (q:Rwa) (xs:List Int),v=.slice q.a xs.length q.c∧SliceAt w 1 I64.enc q.a xs∧xs.length≤9223372036854775807:=by
 obtain ⟨a1,cap1,xs1,rfl,hs1,_,hl1⟩:=read_slice (sz:=1) (enc:=I64.enc) (good:=fun _=>True) Tryz.underlying22 (by kernel_rfl) (by decide) rdI64 h
 exact ⟨⟨a1,cap1⟩,xs1,rfl,hs1,hl1⟩
theorem rdTexts {m:Nat} {v:Value} {y:DataW H × List MemPlace} (h:DataW.trod ec Tryz.prog w base spare held m 25 [v]=some y):∃ (q:Rwa) (xs:List ByteArray),v=.slice q.a xs.length q.c∧SliceAt w 1 Tx.enc q.a xs∧xs.length≤9223372036854775807∧∀ s∈xs,s.size≤9223372036854775807:=by
 obtain ⟨a1,cap1,xs1,rfl,hs1,hg1,hl1⟩:=read_slice (sz:=1) (enc:=Tx.enc) (good:=fun a=>a.size≤9223372036854775807) Tryz.underlying25 (by kernel_rfl) (by decide) rdText h
 exact ⟨⟨a1,cap1⟩,xs1,rfl,hs1,hl1,hg1⟩
theorem rdTiles {m:Nat} {cs:List Value} {y:DataW H × List MemPlace} (h:DataW.trod ec Tryz.prog w base spare held m 24 cs=some y) :
  ∃ (x:Tls) (q:TlA),cs=[.string x.letters,.slice q.values.a x.values.length q.values.c,.slice q.counts.a x.counts.length q.counts.c,.int .i64 x.blanks]∧x.At q w∧x.fit:=by
 obtain ⟨hl,n,hg⟩:=rd_fields Tryz.underlying24 h
 rw [show Tryz.prog.cellsOf 24=4 by kernel_rfl] at hl
 obtain ⟨y0,t0⟩:=hg 0 _ rfl
 replace t0:DataW.trod ec Tryz.prog w base spare held n 9 ((cs.drop 0).take 1)=some y0:=t0
 obtain ⟨a,e0,f0⟩:=rdText _ _ _ t0
 obtain ⟨y1,t1⟩:=hg 1 _ rfl
 replace t1:DataW.trod ec Tryz.prog w base spare held n 22 ((cs.drop 1).take 1)=some y1:=t1
 obtain ⟨v1,o1⟩:=rd_one (cs:=cs) (o:=1) (by omega)
 rw [o1] at t1
 obtain ⟨q1,b,rfl,s1,f1⟩:=rdInts t1
 obtain ⟨y2,t2⟩:=hg 2 _ rfl
 replace t2:DataW.trod ec Tryz.prog w base spare held n 22 ((cs.drop 2).take 1)=some y2:=t2
 obtain ⟨v2,o2⟩:=rd_one (cs:=cs) (o:=2) (by omega)
 rw [o2] at t2
 obtain ⟨q2,c,rfl,s2,f2⟩:=rdInts t2
 obtain ⟨y3,t3⟩:=hg 3 _ rfl
 replace t3:DataW.trod ec Tryz.prog w base spare held n 2 ((cs.drop 3).take 1)=some y3:=t3
 obtain ⟨d,e3,_⟩:=rdI64 _ _ _ t3
 have z:cs.drop 4=[]:=List.drop_eq_nil_of_le (by omega)
 refine ⟨⟨a,b,c,d⟩,⟨q1,q2⟩,?_,⟨s1,s2⟩,f0,f1,f2⟩
 have e:=rd_glue e0
 rw [List.drop_zero] at e
 rw [e,rd_glue o1,rd_glue o2,rd_glue e3,z]
 rfl
theorem rdLexicon {m:Nat} {cs:List Value} {y:DataW H × List MemPlace} (h:DataW.trod ec Tryz.prog w base spare held m 27 cs=some y) :
  ∃ (x:List ByteArray) (q:Rwa),cs=[.slice q.a x.length q.c]∧SliceAt w 1 Tx.enc q.a x∧x.length≤9223372036854775807∧∀ s∈x,s.size≤9223372036854775807:=by
 obtain ⟨hl,n,hg⟩:=rd_fields Tryz.underlying27 h
 rw [show Tryz.prog.cellsOf 27=1 by kernel_rfl] at hl
 obtain ⟨y0,t0⟩:=hg 0 _ rfl
 replace t0:DataW.trod ec Tryz.prog w base spare held n 25 ((cs.drop 0).take 1)=some y0:=t0
 obtain ⟨v0,o0⟩:=rd_one (cs:=cs) (o:=0) (by omega)
 rw [o0] at t0
 obtain ⟨q0,a,rfl,s0,f0,g0⟩:=rdTexts t0
 have z:cs.drop 1=[]:=List.drop_eq_nil_of_le (by omega)
 refine ⟨a,q0,?_,s0,f0,g0⟩
 have e:=rd_glue o0
 rw [List.drop_zero] at e
 rw [e,z]
 rfl
theorem rdBoard {m:Nat} {cs:List Value} {y:DataW H × List MemPlace} (h:DataW.trod ec Tryz.prog w base spare held m 29 cs=some y) :
  ∃ x:Brd,cs=[.int .i64 x.size,.string x.premium,.string x.cells]∧x.fit:=by
 obtain ⟨hl,n,hg⟩:=rd_fields Tryz.underlying29 h
 rw [show Tryz.prog.cellsOf 29=3 by kernel_rfl] at hl
 obtain ⟨y0,t0⟩:=hg 0 _ rfl
 replace t0:DataW.trod ec Tryz.prog w base spare held n 2 ((cs.drop 0).take 1)=some y0:=t0
 obtain ⟨a,e0,_⟩:=rdI64 _ _ _ t0
 obtain ⟨y1,t1⟩:=hg 1 _ rfl
 replace t1:DataW.trod ec Tryz.prog w base spare held n 9 ((cs.drop 1).take 1)=some y1:=t1
 obtain ⟨b,e1,f1⟩:=rdText _ _ _ t1
 obtain ⟨y2,t2⟩:=hg 2 _ rfl
 replace t2:DataW.trod ec Tryz.prog w base spare held n 9 ((cs.drop 2).take 1)=some y2:=t2
 obtain ⟨c,e2,f2⟩:=rdText _ _ _ t2
 have z:cs.drop 3=[]:=List.drop_eq_nil_of_le (by omega)
 refine ⟨⟨a,b,c⟩,?_,⟨f1,f2⟩⟩
 have e:=rd_glue e0
 rw [List.drop_zero] at e
 rw [e,rd_glue e1,rd_glue e2,z]
 rfl
theorem rdPlay {m:Nat} {cs:List Value} {y:DataW H × List MemPlace} (h:DataW.trod ec Tryz.prog w base spare held m 33 cs=some y) :
  ∃ x:Ply,cs=[.int .i64 x.row,.int .i64 x.col,.bool x.down,.string x.word]∧x.fit:=by
 obtain ⟨hl,n,hg⟩:=rd_fields Tryz.underlying33 h
 rw [show Tryz.prog.cellsOf 33=4 by kernel_rfl] at hl
 obtain ⟨y0,t0⟩:=hg 0 _ rfl
 replace t0:DataW.trod ec Tryz.prog w base spare held n 2 ((cs.drop 0).take 1)=some y0:=t0
 obtain ⟨a,e0,_⟩:=rdI64 _ _ _ t0
 obtain ⟨y1,t1⟩:=hg 1 _ rfl
 replace t1:DataW.trod ec Tryz.prog w base spare held n 2 ((cs.drop 1).take 1)=some y1:=t1
 obtain ⟨b,e1,_⟩:=rdI64 _ _ _ t1
 obtain ⟨y2,t2⟩:=hg 2 _ rfl
 replace t2:DataW.trod ec Tryz.prog w base spare held n 4 ((cs.drop 2).take 1)=some y2:=t2
 obtain ⟨c,e2⟩:=rdBit _ _ _ t2
 obtain ⟨y3,t3⟩:=hg 3 _ rfl
 replace t3:DataW.trod ec Tryz.prog w base spare held n 9 ((cs.drop 3).take 1)=some y3:=t3
 obtain ⟨d,e3,f3⟩:=rdText _ _ _ t3
 have z:cs.drop 4=[]:=List.drop_eq_nil_of_le (by omega)
 refine ⟨⟨a,b,c,d⟩,?_,f3⟩
 have e:=rd_glue e0
 rw [List.drop_zero] at e
 rw [e,rd_glue e1,rd_glue e2,rd_glue e3,z]
 rfl
theorem rdSetup {m:Nat} {cs:List Value} {y:DataW H × List MemPlace} (h:DataW.trod ec Tryz.prog w base spare held m 31 cs=some y) :
  ∃ (x:Stp) (q:StA),cs=[.string x.tiles.letters,.slice q.tiles.values.a x.tiles.values.length q.tiles.values.c,.slice q.tiles.counts.a x.tiles.counts.length q.tiles.counts.c,.int .i64 x.tiles.blanks,.slice q.lexicon.a x.lexicon.length q.lexicon.c,.int .i64 x.board.size,.string x.board.premium,.string x.board.cells,.int .i64 x.seconds,.int .i64 x.rule]∧x.At q w∧x.fit:=by
 obtain ⟨hl,n,hg⟩:=rd_fields Tryz.underlying31 h
 rw [show Tryz.prog.cellsOf 31=10 by kernel_rfl] at hl
 obtain ⟨y0,t0⟩:=hg 0 _ rfl
 replace t0:DataW.trod ec Tryz.prog w base spare held n 24 ((cs.drop 0).take 4)=some y0:=t0
 obtain ⟨a,q0,e0,s0,f0⟩:=rdTiles t0
 obtain ⟨y1,t1⟩:=hg 1 _ rfl
 replace t1:DataW.trod ec Tryz.prog w base spare held n 27 ((cs.drop 4).take 1)=some y1:=t1
 obtain ⟨b,q1,e1,s1,f1,g1⟩:=rdLexicon t1
 obtain ⟨y2,t2⟩:=hg 2 _ rfl
 replace t2:DataW.trod ec Tryz.prog w base spare held n 29 ((cs.drop 5).take 3)=some y2:=t2
 obtain ⟨c,e2,f2⟩:=rdBoard t2
 obtain ⟨y3,t3⟩:=hg 3 _ rfl
 replace t3:DataW.trod ec Tryz.prog w base spare held n 2 ((cs.drop 8).take 1)=some y3:=t3
 obtain ⟨d,e3,_⟩:=rdI64 _ _ _ t3
 obtain ⟨y4,t4⟩:=hg 4 _ rfl
 replace t4:DataW.trod ec Tryz.prog w base spare held n 2 ((cs.drop 9).take 1)=some y4:=t4
 obtain ⟨e',e4,_⟩:=rdI64 _ _ _ t4
 have z:cs.drop 10=[]:=List.drop_eq_nil_of_le (by omega)
 refine ⟨⟨a,b,c,d,e'⟩,⟨q0,q1⟩,?_,⟨s0,s1⟩,f0,⟨f1,g1⟩,f2⟩
 have e:=rd_glue e0
 rw [List.drop_zero] at e
 rw [e,rd_glue e1,rd_glue e2,rd_glue e3,rd_glue e4,z]
 rfl
theorem rdLast {m:Nat} {cs:List Value} {y:DataW H × List MemPlace} (h:DataW.trod ec Tryz.prog w base spare held m 35 cs=some y) :
  ∃ x:Lst,cs=[.int .i64 x.kind,.int .i64 x.player,.int .i64 x.play.row,.int .i64 x.play.col,.bool x.play.down,.string x.play.word,.string x.before,.string x.drawn,.int .i64 x.score,.int .i64 x.zeros]∧x.fit:=by
 obtain ⟨hl,n,hg⟩:=rd_fields Tryz.underlying35 h
 rw [show Tryz.prog.cellsOf 35=10 by kernel_rfl] at hl
 obtain ⟨y0,t0⟩:=hg 0 _ rfl
 replace t0:DataW.trod ec Tryz.prog w base spare held n 2 ((cs.drop 0).take 1)=some y0:=t0
 obtain ⟨a,e0,_⟩:=rdI64 _ _ _ t0
 obtain ⟨y1,t1⟩:=hg 1 _ rfl
 replace t1:DataW.trod ec Tryz.prog w base spare held n 2 ((cs.drop 1).take 1)=some y1:=t1
 obtain ⟨b,e1,_⟩:=rdI64 _ _ _ t1
 obtain ⟨y2,t2⟩:=hg 2 _ rfl
 replace t2:DataW.trod ec Tryz.prog w base spare held n 33 ((cs.drop 2).take 4)=some y2:=t2
 obtain ⟨c,e2,f2⟩:=rdPlay t2
 obtain ⟨y3,t3⟩:=hg 3 _ rfl
 replace t3:DataW.trod ec Tryz.prog w base spare held n 9 ((cs.drop 6).take 1)=some y3:=t3
 obtain ⟨d,e3,f3⟩:=rdText _ _ _ t3
 obtain ⟨y4,t4⟩:=hg 4 _ rfl
 replace t4:DataW.trod ec Tryz.prog w base spare held n 9 ((cs.drop 7).take 1)=some y4:=t4
 obtain ⟨e',e4,f4⟩:=rdText _ _ _ t4
 obtain ⟨y5,t5⟩:=hg 5 _ rfl
 replace t5:DataW.trod ec Tryz.prog w base spare held n 2 ((cs.drop 8).take 1)=some y5:=t5
 obtain ⟨f,e5,_⟩:=rdI64 _ _ _ t5
 obtain ⟨y6,t6⟩:=hg 6 _ rfl
 replace t6:DataW.trod ec Tryz.prog w base spare held n 2 ((cs.drop 9).take 1)=some y6:=t6
 obtain ⟨g,e6,_⟩:=rdI64 _ _ _ t6
 have z:cs.drop 10=[]:=List.drop_eq_nil_of_le (by omega)
 refine ⟨⟨a,b,c,d,e',f,g⟩,?_,f2,f3,f4⟩
 have e:=rd_glue e0
 rw [List.drop_zero] at e
 rw [e,rd_glue e1,rd_glue e2,rd_glue e3,rd_glue e4,rd_glue e5,rd_glue e6,z]
 rfl
theorem rdGame {m:Nat} {cs:List Value} {y:DataW H × List MemPlace} (h:DataW.trod ec Tryz.prog w base spare held m 37 cs=some y) :
  ∃ (x:Gam) (q:GaA),cs=[.string x.setup.tiles.letters,.slice q.setup.tiles.values.a x.setup.tiles.values.length q.setup.tiles.values.c,.slice q.setup.tiles.counts.a x.setup.tiles.counts.length q.setup.tiles.counts.c,.int .i64 x.setup.tiles.blanks,.slice q.setup.lexicon.a x.setup.lexicon.length q.setup.lexicon.c,.int .i64 x.setup.board.size,.string x.setup.board.premium,.string x.setup.board.cells,.int .i64 x.setup.seconds,.int .i64 x.setup.rule,.int .i64 x.board.size,.string x.board.premium,.string x.board.cells,.string x.bag,.slice q.racks.a x.racks.length q.racks.c,.slice q.scores.a x.scores.length q.scores.c,.slice q.clocks.a x.clocks.length q.clocks.c,.int .i64 x.player,.int .i64 x.zeros,.int .i64 x.last.kind,.int .i64 x.last.player,.int .i64 x.last.play.row,.int .i64 x.last.play.col,.bool x.last.play.down,.string x.last.play.word,.string x.last.before,.string x.last.drawn,.int .i64 x.last.score,.int .i64 x.last.zeros,.bool x.over]∧x.At q w∧x.fit:=by
 obtain ⟨hl,n,hg⟩:=rd_fields Tryz.underlying37 h
 rw [show Tryz.prog.cellsOf 37=30 by kernel_rfl] at hl
 obtain ⟨y0,t0⟩:=hg 0 _ rfl
 replace t0:DataW.trod ec Tryz.prog w base spare held n 31 ((cs.drop 0).take 10)=some y0:=t0
 obtain ⟨a,q0,e0,s0,f0⟩:=rdSetup t0
 obtain ⟨y1,t1⟩:=hg 1 _ rfl
 replace t1:DataW.trod ec Tryz.prog w base spare held n 29 ((cs.drop 10).take 3)=some y1:=t1
 obtain ⟨b,e1,f1⟩:=rdBoard t1
 obtain ⟨y2,t2⟩:=hg 2 _ rfl
 replace t2:DataW.trod ec Tryz.prog w base spare held n 9 ((cs.drop 13).take 1)=some y2:=t2
 obtain ⟨c,e2,f2⟩:=rdText _ _ _ t2
 obtain ⟨y3,t3⟩:=hg 3 _ rfl
 replace t3:DataW.trod ec Tryz.prog w base spare held n 25 ((cs.drop 14).take 1)=some y3:=t3
 obtain ⟨v3,o3⟩:=rd_one (cs:=cs) (o:=14) (by omega)
 rw [o3] at t3
 obtain ⟨q3,d,rfl,s3,f3,g3⟩:=rdTexts t3
 obtain ⟨y4,t4⟩:=hg 4 _ rfl
 replace t4:DataW.trod ec Tryz.prog w base spare held n 22 ((cs.drop 15).take 1)=some y4:=t4
 obtain ⟨v4,o4⟩:=rd_one (cs:=cs) (o:=15) (by omega)
 rw [o4] at t4
 obtain ⟨q4,e',rfl,s4,f4⟩:=rdInts t4
 obtain ⟨y5,t5⟩:=hg 5 _ rfl
 replace t5:DataW.trod ec Tryz.prog w base spare held n 22 ((cs.drop 16).take 1)=some y5:=t5
 obtain ⟨v5,o5⟩:=rd_one (cs:=cs) (o:=16) (by omega)
 rw [o5] at t5
 obtain ⟨q5,f,rfl,s5,f5⟩:=rdInts t5
 obtain ⟨y6,t6⟩:=hg 6 _ rfl
 replace t6:DataW.trod ec Tryz.prog w base spare held n 2 ((cs.drop 17).take 1)=some y6:=t6
 obtain ⟨g,e6,_⟩:=rdI64 _ _ _ t6
 obtain ⟨y7,t7⟩:=hg 7 _ rfl
 replace t7:DataW.trod ec Tryz.prog w base spare held n 2 ((cs.drop 18).take 1)=some y7:=t7
 obtain ⟨h',e7,_⟩:=rdI64 _ _ _ t7
 obtain ⟨y8,t8⟩:=hg 8 _ rfl
 replace t8:DataW.trod ec Tryz.prog w base spare held n 35 ((cs.drop 19).take 10)=some y8:=t8
 obtain ⟨i,e8,f8⟩:=rdLast t8
 obtain ⟨y9,t9⟩:=hg 9 _ rfl
 replace t9:DataW.trod ec Tryz.prog w base spare held n 4 ((cs.drop 29).take 1)=some y9:=t9
 obtain ⟨j,e9⟩:=rdBit _ _ _ t9
 have z:cs.drop 30=[]:=List.drop_eq_nil_of_le (by omega)
 refine ⟨⟨a,b,c,d,e',f,g,h',i,j⟩,⟨q0,q3,q4,q5⟩,?_,⟨s0,s3,s4,s5⟩,f0,f1,f2,⟨f3,g3⟩,f4,f5,f8⟩
 have e:=rd_glue e0
 rw [List.drop_zero] at e
 rw [e,rd_glue e1,rd_glue e2,rd_glue o3,rd_glue o4,rd_glue o5,rd_glue e6,rd_glue e7,rd_glue e8,rd_glue e9,z]
 rfl
/-- A game that came in. -/
theorem Game.read {r:Reach} {b0:Nat} {v:Value} {d:DataW H} {p:List MemPlace} (hv:Value.okWide Tryz.prog w r b0 37 v) (h:DataW.Trod ec Tryz.prog w base spare held 37 v d p) :
  ∃ (x:Gam) (q:GaA),v=.agg ([.string x.setup.tiles.letters,.slice q.setup.tiles.values.a x.setup.tiles.values.length q.setup.tiles.values.c,.slice q.setup.tiles.counts.a x.setup.tiles.counts.length q.setup.tiles.counts.c,.int .i64 x.setup.tiles.blanks,.slice q.setup.lexicon.a x.setup.lexicon.length q.setup.lexicon.c,.int .i64 x.setup.board.size,.string x.setup.board.premium,.string x.setup.board.cells,.int .i64 x.setup.seconds,.int .i64 x.setup.rule,.int .i64 x.board.size,.string x.board.premium,.string x.board.cells,.string x.bag,.slice q.racks.a x.racks.length q.racks.c,.slice q.scores.a x.scores.length q.scores.c,.slice q.clocks.a x.clocks.length q.clocks.c,.int .i64 x.player,.int .i64 x.zeros,.int .i64 x.last.kind,.int .i64 x.last.player,.int .i64 x.last.play.row,.int .i64 x.last.play.col,.bool x.last.play.down,.string x.last.play.word,.string x.last.before,.string x.last.drawn,.int .i64 x.last.score,.int .i64 x.last.zeros,.bool x.over]:List Value).toArray∧x.At q w∧x.fit:=by
 obtain ⟨cs,rfl,fuel,x,hf⟩:=open_aggs Tryz.underlying37 hv h
 obtain ⟨x,q,rfl,hs,hf⟩:=rdGame hf
 exact ⟨x,q,rfl,hs,hf⟩
end
end Go.Proofs.YtalnbgcdhcnjfaaGreatDoor
