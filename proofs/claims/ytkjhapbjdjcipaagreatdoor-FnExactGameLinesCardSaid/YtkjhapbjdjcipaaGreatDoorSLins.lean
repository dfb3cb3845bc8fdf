/- What comes in, read: a game, a setup, an action. No condition beyond the form that the sta · The statement FnExactGameLines: the lines of a game. Go's tables of unicode and unicode/ut · FnExactGameLines: the lines of a game: the program and the reference alike. The law, lifte -/
import Derived.Test.YtkjhapbjdjcipaaGreatDoorFrame
import Derived.Test.YtkjhapbjdjcipaaGreatDoorGam
import Derived.Test.YtkjhapbjdjcipaaGreatDoorGlC
import Derived.Test.YtkjhapbjdjcipaaGreatDoorGmW
import Derived.Test.YtkjhapbjdjcipaaGreatDoorRows
import Derived.Test.YtkjhapbjdjcipaaGreatDoorCards
import Derived.Test.YtkjhapbjdjcipaaGreatDoorTie
import Derived.Test.YtkjhapbjdjcipaaGreatDoorDoorS
import Derived.Test.YtkjhapbjdjcipaaGreatDoorDoor
import Derived.Stop.Joined
import Derived.LaidMore
import Derived.Stop.LaidErr
import Derived.MakeChecks
import Derived.SevenTiedAt
import Derived.HandedShaped
import Derived.Lib.LaidU8
set_option maxRecDepth 100000
namespace Go.Proofs.YtkjhapbjdjcipaaGreatDoor
open Go.ChangeShapes Go.WideShapes Go.ChangeAt Go.RowKit Go.Sort Go.Joins Go.Deep

section
variable {P:Program} {H:Type} {ec:TypeId × Value→H} {w:World} {base:Nat} {spare:Nat→Bool} {held:Bool}
theorem rd_fields {e:TypeId} {fs:Array Field} {fuel:Nat} {cs:List Value} {x:DataW H × List MemPlace} (hs:P.underlying e=some (.struct fs)) (h:DataW.trod ec P w base spare held fuel e cs=some x) :
  cs.length=P.cellsOf e∧∃ n,∀ (j:Nat) (f:Field),fs[j]?=some f→∃ y:DataW H × List MemPlace,DataW.trod ec P w base spare held n f.type ((cs.drop f.offset).take (P.cellsOf f.type))=some y:=by
 obtain ⟨xs,n,_,_,hlen,hxl,hf⟩:=DataW.trod_struct hs h
 refine ⟨hlen,n,fun j f hj=>?_⟩
 have hjl:j < fs.size:=(Array.getElem?_eq_some_iff.1 hj).1
 have h1:=hf j f hj
 rw [List.getElem?_eq_getElem (by omega)] at h1
 exact ⟨_,h1⟩
theorem rd_glue {cs A:List Value} {o k:Nat} (h:(cs.drop o).take k=A):cs.drop o=A++cs.drop (o+k):=by
 rw [← h,← List.drop_drop,List.take_append_drop]
theorem rd_one {cs:List Value} {o:Nat} (h:o < cs.length):∃ v,(cs.drop o).take 1=[v]:=by
 rw [List.drop_eq_getElem_cons h]
 exact ⟨_,rfl⟩
end
section
variable {H:Type} {ec:TypeId × Value→H} {w:World} {base:Nat} {spare:Nat→Bool} {held:Bool}
instance:Inhabited ByteArray:=⟨⟨#[]⟩⟩
theorem rdText (m:Nat) (cs:List Value) (y:DataW H × List MemPlace) (h:DataW.trod ec Tryz.prog w base spare held m 9 cs=some y):∃ a:ByteArray,cs=Tx.enc a∧a.size≤9223372036854775807:=by
 obtain ⟨s0,e0,_,b0⟩:=DataW.trod_string Tryz.underlying9 h
 exact ⟨s0,e0,by unfold maxLen at b0;omega⟩
theorem rdI64 (m:Nat) (cs:List Value) (y:DataW H × List MemPlace) (h:DataW.trod ec Tryz.prog w base spare held m 2 cs=some y):∃ a:Int,cs=I64.enc a∧True:=by
 obtain ⟨x1,e1,_,_⟩:=DataW.trod_int Tryz.underlying2 h
 exact ⟨x1,e1,trivial⟩
theorem rdBit (m:Nat) (cs:List Value) (y:DataW H × List MemPlace) (h:DataW.trod ec Tryz.prog w base spare held m 4 cs=some y):∃ a:Bool,cs=[.bool a]:=by
 obtain ⟨x1,e1,_⟩:=DataW.trod_bool Tryz.underlying4 h
 exact ⟨x1,e1⟩
theorem rdInts {m:Nat} {v:Value} {y:DataW H × List MemPlace} (h:DataW.trod ec Tryz.prog w base spare held m 22 [v]=some y):∃ (q:Rwa) (xs:List Int),v=.slice q.a xs.length q.c∧SliceAt w 1 I64.enc q.a xs∧xs.length≤9223372036854775807:=by
 obtain ⟨a1,cap1,xs1,rfl,hs1,_,hl1⟩:=read_slice (sz:=1) (enc:=I64.enc) (good:=fun _=>True) Tryz.underlying22 (by kernel_rfl) (by decide) rdI64 h
 exact ⟨⟨a1,cap1⟩,xs1,rfl,hs1,hl1⟩
theorem rdTexts {m:Nat} {v:Value} {y:DataW H × List MemPlace} (h:DataW.trod ec Tryz.prog w base spare held m 25 [v]=some y):∃ (q:Rwa) (xs:List ByteArray),v=.slice q.a xs.length q.c∧SliceAt w 1 Tx.enc q.a xs∧xs.length≤9223372036854775807∧∀ s∈xs,s.size≤9223372036854775807:=by
 obtain ⟨a1,cap1,xs1,rfl,hs1,hg1,hl1⟩:=read_slice (sz:=1) (enc:=Tx.enc) (good:=fun a=>a.size≤9223372036854775807) Tryz.underlying25 (by kernel_rfl) (by decide) rdText h
 exact ⟨⟨a1,cap1⟩,xs1,rfl,hs1,hl1,hg1⟩
theorem rdTiles {m:Nat} {cs:List Value} {y:DataW H × List MemPlace} (h:DataW.trod ec Tryz.prog w base spare held m 24 cs=some y) :
  ∃ (x:Tls) (q:TlA),cs=[.string x.letters,.slice q.values.a x.values.length q.values.c,.slice q.counts.a x.counts.length q.counts.c,.int .i64 x.blanks]∧x.At q w∧x.fit:=by
 obtain ⟨hl,n,hg⟩:=rd_fields Tryz.underlying24 h
 rw [show Tryz.prog.cellsOf 24=4 by kernel_rfl] at hl
 obtain ⟨y0,t0⟩:=hg 0 _ rfl
 replace t0:DataW.trod ec Tryz.prog w base spare held n 9 ((cs.drop 0).take 1)=some y0:=t0
 obtain ⟨a,e0,f0⟩:=rdText _ _ _ t0
 obtain ⟨y1,t1⟩:=hg 1 _ rfl
 replace t1:DataW.trod ec Tryz.prog w base spare held n 22 ((cs.drop 1).take 1)=some y1:=t1
 obtain ⟨v1,o1⟩:=rd_one (cs:=cs) (o:=1) (by omega)
 rw [o1] at t1
 obtain ⟨q1,b,rfl,s1,f1⟩:=rdInts t1
 obtain ⟨y2,t2⟩:=hg 2 _ rfl
 replace t2:DataW.trod ec Tryz.prog w base spare held n 22 ((cs.drop 2).take 1)=some y2:=t2
 obtain ⟨v2,o2⟩:=rd_one (cs:=cs) (o:=2) (by omega)
 rw [o2] at t2
 obtain ⟨q2,c,rfl,s2,f2⟩:=rdInts t2
 obtain ⟨y3,t3⟩:=hg 3 _ rfl
 replace t3:DataW.trod ec Tryz.prog w base spare held n 2 ((cs.drop 3).take 1)=some y3:=t3
 obtain ⟨d,e3,_⟩:=rdI64 _ _ _ t3
 have z:cs.drop 4=[]:=List.drop_eq_nil_of_le (by omega)
 refine ⟨⟨a,b,c,d⟩,⟨q1,q2⟩,?_,⟨s1,s2⟩,f0,f1,f2⟩
 have e:=rd_glue e0
 rw [List.drop_zero] at e
 rw [e,rd_glue o1,rd_glue o2,rd_glue e3,z]
 rfl
theorem rdLexicon {m:Nat} {cs:List Value} {y:DataW H × List MemPlace} (h:DataW.trod ec Tryz.prog w base spare held m 27 cs=some y) :
  ∃ (x:List ByteArray) (q:Rwa),cs=[.slice q.a x.length q.c]∧SliceAt w 1 Tx.enc q.a x∧x.length≤9223372036854775807∧∀ s∈x,s.size≤9223372036854775807:=by
 obtain ⟨hl,n,hg⟩:=rd_fields Tryz.underlying27 h
 rw [show Tryz.prog.cellsOf 27=1 by kernel_rfl] at hl
 obtain ⟨y0,t0⟩:=hg 0 _ rfl
 replace t0:DataW.trod ec Tryz.prog w base spare held n 25 ((cs.drop 0).take 1)=some y0:=t0
 obtain ⟨v0,o0⟩:=rd_one (cs:=cs) (o:=0) (by omega)
 rw [o0] at t0
 obtain ⟨q0,a,rfl,s0,f0,g0⟩:=rdTexts t0
 have z:cs.drop 1=[]:=List.drop_eq_nil_of_le (by omega)
 refine ⟨a,q0,?_,s0,f0,g0⟩
 have e:=rd_glue o0
 rw [List.drop_zero] at e
 rw [e,z]
 rfl
theorem rdBoard {m:Nat} {cs:List Value} {y:DataW H × List MemPlace} (h:DataW.trod ec Tryz.prog w base spare held m 29 cs=some y) :
  ∃ x:Brd,cs=[.int .i64 x.size,.string x.premium,.string x.cells]∧x.fit:=by
 obtain ⟨hl,n,hg⟩:=rd_fields Tryz.underlying29 h
 rw [show Tryz.prog.cellsOf 29=3 by kernel_rfl] at hl
 obtain ⟨y0,t0⟩:=hg 0 _ rfl
 replace t0:DataW.trod ec Tryz.prog w base spare held n 2 ((cs.drop 0).take 1)=some y0:=t0
 obtain ⟨a,e0,_⟩:=rdI64 _ _ _ t0
 obtain ⟨y1,t1⟩:=hg 1 _ rfl
 replace t1:DataW.trod ec Tryz.prog w base spare held n 9 ((cs.drop 1).take 1)=some y1:=t1
 obtain ⟨b,e1,f1⟩:=rdText _ _ _ t1
 obtain ⟨y2,t2⟩:=hg 2 _ rfl
 replace t2:DataW.trod ec Tryz.prog w base spare held n 9 ((cs.drop 2).take 1)=some y2:=t2
 obtain ⟨c,e2,f2⟩:=rdText _ _ _ t2
 have z:cs.drop 3=[]:=List.drop_eq_nil_of_le (by omega)
 refine ⟨⟨a,b,c⟩,?_,⟨f1,f2⟩⟩
 have e:=rd_glue e0
 rw [List.drop_zero] at e
 rw [e,rd_glue e1,rd_glue e2,z]
 rfl
theorem rdPlay {m:Nat} {cs:List Value} {y:DataW H × List MemPlace} (h:DataW.trod ec Tryz.prog w base spare held m 33 cs=some y) :
  ∃ x:Ply,cs=[.int .i64 x.row,.int .i64 x.col,.bool x.down,.string x.word]∧x.fit:=by
 obtain ⟨hl,n,hg⟩:=rd_fields Tryz.underlying33 h
 rw [show Tryz.prog.cellsOf 33=4 by kernel_rfl] at hl
 obtain ⟨y0,t0⟩:=hg 0 _ rfl
 replace t0:DataW.trod ec Tryz.prog w base spare held n 2 ((cs.drop 0).take 1)=some y0:=t0
 obtain ⟨a,e0,_⟩:=rdI64 _ _ _ t0
 obtain ⟨y1,t1⟩:=hg 1 _ rfl
 replace t1:DataW.trod ec Tryz.prog w base spare held n 2 ((cs.drop 1).take 1)=some y1:=t1
 obtain ⟨b,e1,_⟩:=rdI64 _ _ _ t1
 obtain ⟨y2,t2⟩:=hg 2 _ rfl
 replace t2:DataW.trod ec Tryz.prog w base spare held n 4 ((cs.drop 2).take 1)=some y2:=t2
 obtain ⟨c,e2⟩:=rdBit _ _ _ t2
 obtain ⟨y3,t3⟩:=hg 3 _ rfl
 replace t3:DataW.trod ec Tryz.prog w base spare held n 9 ((cs.drop 3).take 1)=some y3:=t3
 obtain ⟨d,e3,f3⟩:=rdText _ _ _ t3
 have z:cs.drop 4=[]:=List.drop_eq_nil_of_le (by omega)
 refine ⟨⟨a,b,c,d⟩,?_,f3⟩
 have e:=rd_glue e0
 rw [List.drop_zero] at e
 rw [e,rd_glue e1,rd_glue e2,rd_glue e3,z]
 rfl
theorem rdSetup {m:Nat} {cs:List Value} {y:DataW H × List MemPlace} (h:DataW.trod ec Tryz.prog w base spare held m 31 cs=some y) :
  ∃ (x:Stp) (q:StA),cs=[.string x.tiles.letters,.slice q.tiles.values.a x.tiles.values.length q.tiles.values.c,.slice q.tiles.counts.a x.tiles.counts.length q.tiles.counts.c,.int .i64 x.tiles.blanks,.slice q.lexicon.a x.lexicon.length q.lexicon.c,.int .i64 x.board.size,.string x.board.premium,.string x.board.cells,.int .i64 x.seconds,.int .i64 x.rule]∧x.At q w∧x.fit:=by
 obtain ⟨hl,n,hg⟩:=rd_fields Tryz.underlying31 h
 rw [show Tryz.prog.cellsOf 31=10 by kernel_rfl] at hl
 obtain ⟨y0,t0⟩:=hg 0 _ rfl
 replace t0:DataW.trod ec Tryz.prog w base spare held n 24 ((cs.drop 0).take 4)=some y0:=t0
 obtain ⟨a,q0,e0,s0,f0⟩:=rdTiles t0
 obtain ⟨y1,t1⟩:=hg 1 _ rfl
 replace t1:DataW.trod ec Tryz.prog w base spare held n 27 ((cs.drop 4).take 1)=some y1:=t1
 obtain ⟨b,q1,e1,s1,f1,g1⟩:=rdLexicon t1
 obtain ⟨y2,t2⟩:=hg 2 _ rfl
 replace t2:DataW.trod ec Tryz.prog w base spare held n 29 ((cs.drop 5).take 3)=some y2:=t2
 obtain ⟨c,e2,f2⟩:=rdBoard t2
 obtain ⟨y3,t3⟩:=hg 3 _ rfl
 replace t3:DataW.trod ec Tryz.prog w base spare held n 2 ((cs.drop 8).take 1)=some y3:=t3
 obtain ⟨d,e3,_⟩:=rdI64 _ _ _ t3
 obtain ⟨y4,t4⟩:=hg 4 _ rfl
 replace t4:DataW.trod ec Tryz.prog w base spare held n 2 ((cs.drop 9).take 1)=some y4:=t4
 obtain ⟨e',e4,_⟩:=rdI64 _ _ _ t4
 have z:cs.drop 10=[]:=List.drop_eq_nil_of_le (by omega)
 refine ⟨⟨a,b,c,d,e'⟩,⟨q0,q1⟩,?_,⟨s0,s1⟩,f0,⟨f1,g1⟩,f2⟩
 have e:=rd_glue e0
 rw [List.drop_zero] at e
 rw [e,rd_glue e1,rd_glue e2,rd_glue e3,rd_glue e4,z]
 rfl
theorem rdLast {m:Nat} {cs:List Value} {y:DataW H × List MemPlace} (h:DataW.trod ec Tryz.prog w base spare held m 35 cs=some y) :
  ∃ x:Lst,cs=[.int .i64 x.kind,.int .i64 x.player,.int .i64 x.play.row,.int .i64 x.play.col,.bool x.play.down,.string x.play.word,.string x.before,.string x.drawn,.int .i64 x.score,.int .i64 x.zeros]∧x.fit:=by
 obtain ⟨hl,n,hg⟩:=rd_fields Tryz.underlying35 h
 rw [show Tryz.prog.cellsOf 35=10 by kernel_rfl] at hl
 obtain ⟨y0,t0⟩:=hg 0 _ rfl
 replace t0:DataW.trod ec Tryz.prog w base spare held n 2 ((cs.drop 0).take 1)=some y0:=t0
 obtain ⟨a,e0,_⟩:=rdI64 _ _ _ t0
 obtain ⟨y1,t1⟩:=hg 1 _ rfl
 replace t1:DataW.trod ec Tryz.prog w base spare held n 2 ((cs.drop 1).take 1)=some y1:=t1
 obtain ⟨b,e1,_⟩:=rdI64 _ _ _ t1
 obtain ⟨y2,t2⟩:=hg 2 _ rfl
 replace t2:DataW.trod ec Tryz.prog w base spare held n 33 ((cs.drop 2).take 4)=some y2:=t2
 obtain ⟨c,e2,f2⟩:=rdPlay t2
 obtain ⟨y3,t3⟩:=hg 3 _ rfl
 replace t3:DataW.trod ec Tryz.prog w base spare held n 9 ((cs.drop 6).take 1)=some y3:=t3
 obtain ⟨d,e3,f3⟩:=rdText _ _ _ t3
 obtain ⟨y4,t4⟩:=hg 4 _ rfl
 replace t4:DataW.trod ec Tryz.prog w base spare held n 9 ((cs.drop 7).take 1)=some y4:=t4
 obtain ⟨e',e4,f4⟩:=rdText _ _ _ t4
 obtain ⟨y5,t5⟩:=hg 5 _ rfl
 replace t5:DataW.trod ec Tryz.prog w base spare held n 2 ((cs.drop 8).take 1)=some y5:=t5
 obtain ⟨f,e5,_⟩:=rdI64 _ _ _ t5
 obtain ⟨y6,t6⟩:=hg 6 _ rfl
 replace t6:DataW.trod ec Tryz.prog w base spare held n 2 ((cs.drop 9).take 1)=some y6:=t6
 obtain ⟨g,e6,_⟩:=rdI64 _ _ _ t6
 have z:cs.drop 10=[]:=List.drop_eq_nil_of_le (by omega)
 refine ⟨⟨a,b,c,d,e',f,g⟩,?_,f2,f3,f4⟩
 have e:=rd_glue e0
 rw [List.drop_zero] at e
 rw [e,rd_glue e1,rd_glue e2,rd_glue e3,rd_glue e4,rd_glue e5,rd_glue e6,z]
 rfl
theorem rdGame {m:Nat} {cs:List Value} {y:DataW H × List MemPlace} (h:DataW.trod ec Tryz.prog w base spare held m 37 cs=some y) :
  ∃ (x:Gam) (q:GaA),cs=[.string x.setup.tiles.letters,.slice q.setup.tiles.values.a x.setup.tiles.values.length q.setup.tiles.values.c,.slice q.setup.tiles.counts.a x.setup.tiles.counts.length q.setup.tiles.counts.c,.int .i64 x.setup.tiles.blanks,.slice q.setup.lexicon.a x.setup.lexicon.length q.setup.lexicon.c,.int .i64 x.setup.board.size,.string x.setup.board.premium,.string x.setup.board.cells,.int .i64 x.setup.seconds,.int .i64 x.setup.rule,.int .i64 x.board.size,.string x.board.premium,.string x.board.cells,.string x.bag,.slice q.racks.a x.racks.length q.racks.c,.slice q.scores.a x.scores.length q.scores.c,.slice q.clocks.a x.clocks.length q.clocks.c,.int .i64 x.player,.int .i64 x.zeros,.int .i64 x.last.kind,.int .i64 x.last.player,.int .i64 x.last.play.row,.int .i64 x.last.play.col,.bool x.last.play.down,.string x.last.play.word,.string x.last.before,.string x.last.drawn,.int .i64 x.last.score,.int .i64 x.last.zeros,.bool x.over]∧x.At q w∧x.fit:=by
 obtain ⟨hl,n,hg⟩:=rd_fields Tryz.underlying37 h
 rw [show Tryz.prog.cellsOf 37=30 by kernel_rfl] at hl
 obtain ⟨y0,t0⟩:=hg 0 _ rfl
 replace t0:DataW.trod ec Tryz.prog w base spare held n 31 ((cs.drop 0).take 10)=some y0:=t0
 obtain ⟨a,q0,e0,s0,f0⟩:=rdSetup t0
 obtain ⟨y1,t1⟩:=hg 1 _ rfl
 replace t1:DataW.trod ec Tryz.prog w base spare held n 29 ((cs.drop 10).take 3)=some y1:=t1
 obtain ⟨b,e1,f1⟩:=rdBoard t1
 obtain ⟨y2,t2⟩:=hg 2 _ rfl
 replace t2:DataW.trod ec Tryz.prog w base spare held n 9 ((cs.drop 13).take 1)=some y2:=t2
 obtain ⟨c,e2,f2⟩:=rdText _ _ _ t2
 obtain ⟨y3,t3⟩:=hg 3 _ rfl
 replace t3:DataW.trod ec Tryz.prog w base spare held n 25 ((cs.drop 14).take 1)=some y3:=t3
 obtain ⟨v3,o3⟩:=rd_one (cs:=cs) (o:=14) (by omega)
 rw [o3] at t3
 obtain ⟨q3,d,rfl,s3,f3,g3⟩:=rdTexts t3
 obtain ⟨y4,t4⟩:=hg 4 _ rfl
 replace t4:DataW.trod ec Tryz.prog w base spare held n 22 ((cs.drop 15).take 1)=some y4:=t4
 obtain ⟨v4,o4⟩:=rd_one (cs:=cs) (o:=15) (by omega)
 rw [o4] at t4
 obtain ⟨q4,e',rfl,s4,f4⟩:=rdInts t4
 obtain ⟨y5,t5⟩:=hg 5 _ rfl
 replace t5:DataW.trod ec Tryz.prog w base spare held n 22 ((cs.drop 16).take 1)=some y5:=t5
 obtain ⟨v5,o5⟩:=rd_one (cs:=cs) (o:=16) (by omega)
 rw [o5] at t5
 obtain ⟨q5,f,rfl,s5,f5⟩:=rdInts t5
 obtain ⟨y6,t6⟩:=hg 6 _ rfl
 replace t6:DataW.trod ec Tryz.prog w base spare held n 2 ((cs.drop 17).take 1)=some y6:=t6
 obtain ⟨g,e6,_⟩:=rdI64 _ _ _ t6
 obtain ⟨y7,t7⟩:=hg 7 _ rfl
 replace t7:DataW.trod ec Tryz.prog w base spare held n 2 ((cs.drop 18).take 1)=some y7:=t7
 obtain ⟨h',e7,_⟩:=rdI64 _ _ _ t7
 obtain ⟨y8,t8⟩:=hg 8 _ rfl
 replace t8:DataW.trod ec Tryz.prog w base spare held n 35 ((cs.drop 19).take 10)=some y8:=t8
 obtain ⟨i,e8,f8⟩:=rdLast t8
 obtain ⟨y9,t9⟩:=hg 9 _ rfl
 replace t9:DataW.trod ec Tryz.prog w base spare held n 4 ((cs.drop 29).take 1)=some y9:=t9
 obtain ⟨j,e9⟩:=rdBit _ _ _ t9
 have z:cs.drop 30=[]:=List.drop_eq_nil_of_le (by omega)
 refine ⟨⟨a,b,c,d,e',f,g,h',i,j⟩,⟨q0,q3,q4,q5⟩,?_,⟨s0,s3,s4,s5⟩,f0,f1,f2,⟨f3,g3⟩,f4,f5,f8⟩
 have e:=rd_glue e0
 rw [List.drop_zero] at e
 rw [e,rd_glue e1,rd_glue e2,rd_glue o3,rd_glue o4,rd_glue o5,rd_glue e6,rd_glue e7,rd_glue e8,rd_glue e9,z]
 rfl
/-- A game that came in. -/
theorem Game.read {r:Reach} {b0:Nat} {v:Value} {d:DataW H} {p:List MemPlace} (hv:Value.okWide Tryz.prog w r b0 37 v) (h:DataW.Trod ec Tryz.prog w base spare held 37 v d p) :
  ∃ (x:Gam) (q:GaA),v=.agg ([.string x.setup.tiles.letters,.slice q.setup.tiles.values.a x.setup.tiles.values.length q.setup.tiles.values.c,.slice q.setup.tiles.counts.a x.setup.tiles.counts.length q.setup.tiles.counts.c,.int .i64 x.setup.tiles.blanks,.slice q.setup.lexicon.a x.setup.lexicon.length q.setup.lexicon.c,.int .i64 x.setup.board.size,.string x.setup.board.premium,.string x.setup.board.cells,.int .i64 x.setup.seconds,.int .i64 x.setup.rule,.int .i64 x.board.size,.string x.board.premium,.string x.board.cells,.string x.bag,.slice q.racks.a x.racks.length q.racks.c,.slice q.scores.a x.scores.length q.scores.c,.slice q.clocks.a x.clocks.length q.clocks.c,.int .i64 x.player,.int .i64 x.zeros,.int .i64 x.last.kind,.int .i64 x.last.player,.int .i64 x.last.play.row,.int .i64 x.last.play.col,.bool x.last.play.down,.string x.last.play.word,.string x.last.before,.string x.last.drawn,.int .i64 x.last.score,.int .i64 x.last.zeros,.bool x.over]:List Value).toArray∧x.At q w∧x.fit:=by
 obtain ⟨cs,rfl,fuel,x,hf⟩:=open_aggs Tryz.underlying37 hv h
 obtain ⟨x,q,rfl,hs,hf⟩:=rdGame hf
 exact ⟨x,q,rfl,hs,hf⟩
end
end Go.Proofs.YtkjhapbjdjcipaaGreatDoor
set_option maxRecDepth 100000
set_option maxHeartbeats 16000000
namespace Go.Proofs.YtkjhapbjdjcipaaGreatDoor
open Go.ChangeShapes Go.WideShapes Go.ChangeAt Go.RowKit Go.Sort

theorem size_lgame (x:Gam) (p:GaA):(Tryz.prog.info? 37).map (·.size)=some (gcells x p).length:=by kernel_rfl
theorem gcells_one (x:Gam) (p:GaA):∀ v∈gcells x p,v.oneCell'=true:=by
 intro v hv
 simp only [gcells,List.mem_cons,List.not_mem_nil,or_false] at hv
 rcases hv with rfl | rfl | rfl | rfl | rfl | rfl | rfl | rfl | rfl | rfl | rfl | rfl | rfl | rfl | rfl | rfl | rfl | rfl | rfl | rfl | rfl | rfl | rfl | rfl | rfl | rfl | rfl | rfl | rfl | rfl<;>rfl
/-- the cells of a game that nobody has filled -/
def gzero:List Value:=szero++[.int .i64 0,.string ⟨#[]⟩,.string ⟨#[]⟩,.string ⟨#[]⟩,.slice none 0 0,.slice none 0 0,.slice none 0 0,.int .i64 0,.int .i64 0,.int .i64 0,.int .i64 0,.int .i64 0,.int .i64 0,.bool false,.string ⟨#[]⟩,.string ⟨#[]⟩,.string ⟨#[]⟩,.int .i64 0,.int .i64 0,.bool false]
theorem lawGameLines_any (x:Gam) (p:GaA) (w:World) (ha:x.At p w) (hf:x.fit) (hE:CEnv w) (hEL:EnvL w) (ht:Tab w) :
  Calls Tryz.prog 6 #[.agg (gcells x p).toArray] w fun e w'=>e=.returned (.bool true)∧Below w.heap.size w w':=by
 have hb:Below w.heap.size w (w.alloc (.cells (gcells x p).toArray 37)):=(Below.refl _ _).alloc (Nat.le_refl _) _
 have VL:=Lh (VarAt.new w 37 (gcells x p))
 have HA:Hid (x.At p (w.alloc (.cells (gcells x p).toArray 37))):=Lh (Gam.At.kept ha hb)
 have HE:=Lh (hE.kept hb)
 have HEL:=Lh (hEL.kept hb)
 have HTB:=Lh (ht.kept hb)
 have HSL:Hid (∀ q,(Tryz.prog.info? 37).map (·.size)=some (gcells x q).length):=Lh (size_lgame x)
 have HSZ:Hid (∀ q,(Tryz.prog.info? 48).map (·.size)=some (gcells x q).length):=Lh (size_game x)
 have HGL:Hid (∀ q,(gcells x q).length=30):=Lh (fun _=>rfl)
 have HG1:Hid (∀ q,∀ v∈gcells x q,v.oneCell'=true):=Lh (gcells_one x)
 have HSG:Hid (∀ W,x.At p W→Calls Tryz.prog 7 #[.agg (gcells x p).toArray,.int .i64 1048576] W (SzPost W 1048576 x.sz)):=Lh (fun W h=>szGame_any x p 1048576 W h (by omega) (by omega) hf)
 have HTA:Hid (x.small→∀ W,x.At p W→Calls Tryz.prog 9 #[.agg (gcells x p).toArray] W fun e w'=>∃ q:GaA,e=.returned (.agg (gcells x q).toArray)∧x.At q w'∧Below W.heap.size W w'):=Lh (fun hs W h=>(toGame_any x p W h hs).mono (by
  rintro e w' ⟨q,h1,h2,h3⟩
  exact ⟨q,h1,h2.at,h3⟩))
 have HTO:Hid (x.small→∀ W,x.At p W→Calls Tryz.prog 9 #[.agg (gcells x p).toArray] W fun e w'=>∃ q:GaA,e=.returned (.agg (gcells x q).toArray)∧x.Z q W.heap.size w'∧x.Off q∧Below W.heap.size W w'):=Lh (fun hs W h=>(toGameA_any x p W h hs).mono (by
  rintro e w' ⟨q,h1,h2,h4,h3⟩
  exact ⟨q,h1,.of h2,.of h4,h3⟩))
 have HEQ:Hid (∀ q r W,x.At q W→x.At r W→Calls Tryz.prog 11 #[.agg (gcells x q).toArray,.agg (gcells x r).toArray] W fun e w'=>e=.returned (.bool true)∧Below W.heap.size W w'):=Lh (fun q r W h h2=>eqGame_any x q r W h h2 hf)
 have HMK:Hid (x.small→∀ q base W,x.Z q base W→x.Off q→base≤W.heap.size→Calls Tryz.prog 12 #[.agg (gcells x q).toArray,.int .i64 1] W fun e w'=>e=.returned (.int .i64 (1+(x.cnt:Nat)))∧Wrote base (x.effs q) W w'):=Lh (fun hs q base W h h2 h3=>(markGameZ_any x q base W h h2 h3 hs).mono (by
  rintro e w' ⟨h1,_,h4⟩
  exact ⟨h1,h4⟩))
 obtain ⟨rv,hrv⟩:∃ r,r=x.lines.1:=⟨_,rfl⟩
 obtain ⟨kc,hkc⟩:∃ c,c=x.lines.2:=⟨_,rfl⟩
 have HSM:Hid (x.small→rv.length≤1048576):=Lh (by rw [hrv];exact fun hsm=>x.lines_small)
 have HSP:Hid (x.small→∀ q W,x.At q W→Calls Tryz.prog 18 #[.agg (gcells x q).toArray] W fun e w'=>∃ q:Rwa,e=.returned (.tuple #[.slice q.a rv.length q.c,.int .i64 kc])∧SliceAt w' 1 Tx.enc q.a rv∧Below W.heap.size W w'):=Lh (by rw [hrv,hkc];exact fun hsm q W h=>specGameLines_any x q W h hf hsm)
 have HIM:Hid (x.small→x.setup.tiles.letters.size≤1048576→x.last.play.word.size≤1048576→∀ q W,x.At q W→CEnv W→EnvL W→Tab W→Calls Tryz.prog 19 #[.agg (gcells x q).toArray] W fun e w'=>∃ q:Rwa,e=.returned (.tuple #[.slice q.a rv.length q.c,.int .i64 kc])∧TZ w' W.heap.size q.a q.c rv∧True∧Below W.heap.size W w'):=Lh (by rw [hrv,hkc];exact fun hsm h1 h2 q W h h3 h4 h5=>implGameLines_any x q W h hf hsm h1 h2 h3 h4 h5)
 clear hrv hkc
 have HRQ:Hid (x.small→∀ (q r:Rwa) W,SliceAt W 1 Tx.enc q.a rv→SliceAt W 1 Tx.enc r.a rv→Calls Tryz.prog 20 #[.slice q.a rv.length q.c,.slice r.a rv.length r.c] W fun e w'=>e=.returned (.bool true)∧Below W.heap.size W w'):=Lh (fun hsm q r W h h2=>by
  have hlen:=HSM.out hsm
  exact eqStringS_any rv _ _ q.c r.c W h h2 (by have:=hlen;omega))
 have HRM:Hid (x.small→∀ (q:Rwa) (base:Nat) W,TZ W base q.a q.c rv→True→base≤W.heap.size→Calls Tryz.prog 21 #[.slice q.a rv.length q.c,.int .i64 1] W fun e w'=>e=.returned (.int .i64 (1+(rv.length:Nat)))∧TZ w' base q.a q.c (Tx.marks 1 rv.length)∧Wrote base ([effA q.a rv]) W w'):=Lh (fun hsm q base W h h2 h3=>by
  have hlen:=HSM.out hsm
  exact markTZ_any rv q.a q.c base 1 W h h3 hlen (by omega) (by omega))
 have HRH:Hid (x.small→∀ (q:Rwa) W,SliceAt W 1 Tx.enc q.a (Tx.marks 1 rv.length)→Calls Tryz.prog 22 #[.slice q.a rv.length q.c,.int .i64 1] W fun e w'=>e=.returned (.int .i64 (1+(rv.length:Nat)))∧Below W.heap.size W w'):=Lh (fun hsm q W h=>by
  have hlen:=HSM.out hsm
  exact heldStringS_any rv.length q.a q.c 1 W h (by have:=hlen;omega) (by omega) (by have:=hlen;omega))
 have LZK:Hid (∀ (q:Rwa) (base:Nat) W W',TZ W base q.a q.c rv→Below W.heap.size W W'→TZ W' base q.a q.c rv):=Lh (fun _ _ _ _ h hb=>h.kept hb)
 have LZA:Hid (∀ (q:Rwa) (base:Nat) W,TZ W base q.a q.c rv→SliceAt W 1 Tx.enc q.a rv):=Lh (fun _ _ _ h=>h.at)
 have LMA:Hid (∀ (q:Rwa) (base:Nat) W,TZ W base q.a q.c (Tx.marks 1 rv.length)→SliceAt W 1 Tx.enc q.a (Tx.marks 1 rv.length)):=Lh (fun _ _ _ h=>h.at)
 have LAK:Hid (∀ (q:Rwa) W W',SliceAt W 1 Tx.enc q.a rv→Below W.heap.size W W'→SliceAt W' 1 Tx.enc q.a rv):=Lh (fun _ _ _ h hb=>h.kept hb)
 have LMK:Hid (∀ (q:Rwa) (base:Nat) W W',TZ W base q.a q.c (Tx.marks 1 rv.length)→Below W.heap.size W W'→TZ W' base q.a q.c (Tx.marks 1 rv.length)):=Lh (fun _ _ _ _ h hb=>h.kept hb)
 have LZW:Hid (∀ (q:Rwa) (base lo:Nat) S W W',TZ W base q.a q.c rv→Wrote lo S W W'→(∀ s∈S,∀ t∈[effA q.a rv],offA s t)→TZ W' base q.a q.c rv):=Lh (fun _ _ _ _ _ _ h hw ho=>h.wrote hw (fun s hs=>ho s hs _ (List.mem_singleton.2 rfl)))
 have LZL:Hid (∀ (q:Rwa) (base:Nat) W,TZ W base q.a q.c rv→∀ t∈[effA q.a rv],∀ g,t.map (·.block)=some g→base≤g∧g < W.heap.size):=Lh (fun _ _ _ h=>(fun t ht=>by rw [List.mem_singleton.1 ht];exact h.lt))
 clear HSM ha hE hEL hf ht
 have hcq:∃ c:Nat,c=rv.length:=⟨_,rfl⟩
 obtain ⟨n,hn⟩:=hcq
 rw [← hn] at HSP HIM HRQ HRM HRH
 obtain ⟨PAt,hPAt⟩:∃ f:Rwa→World→Prop,f=fun q W=>SliceAt W 1 Tx.enc q.a rv:=⟨_,rfl⟩
 obtain ⟨PZ,hPZ⟩:∃ f:Rwa→Nat→World→Prop,f=fun q base W=>TZ W base q.a q.c rv:=⟨_,rfl⟩
 obtain ⟨PO,hPO⟩:∃ f:Rwa→Prop,f=fun q=>True:=⟨_,rfl⟩
 obtain ⟨PM,hPM⟩:∃ f:Rwa→Nat→World→Prop,f=fun q base W=>TZ W base q.a q.c (Tx.marks 1 rv.length):=⟨_,rfl⟩
 obtain ⟨PE,hPE⟩:∃ f:Rwa→List (Option Addr),f=fun q=>[effA q.a rv]:=⟨_,rfl⟩
 obtain ⟨PK,hPK⟩:∃ f:Rwa→World→Prop,f=fun q W=>SliceAt W 1 Tx.enc q.a (Tx.marks 1 rv.length):=⟨_,rfl⟩
 rw [← hn] at hPM hPK LMA LMK
 replace HSP:Hid (x.small→∀ q W,x.At q W→Calls Tryz.prog 18 #[.agg (gcells x q).toArray] W fun e w'=>∃ q:Rwa,e=.returned (.tuple #[.slice q.a n q.c,.int .i64 kc])∧PAt q w'∧Below W.heap.size W w'):=by rw [hPAt];exact HSP
 replace HIM:Hid (x.small→x.setup.tiles.letters.size≤1048576→x.last.play.word.size≤1048576→∀ q W,x.At q W→CEnv W→EnvL W→Tab W→Calls Tryz.prog 19 #[.agg (gcells x q).toArray] W fun e w'=>∃ q:Rwa,e=.returned (.tuple #[.slice q.a n q.c,.int .i64 kc])∧PZ q W.heap.size w'∧PO q∧Below W.heap.size W w'):=by rw [hPZ,hPO];exact HIM
 replace HRQ:Hid (x.small→∀ q r W,PAt q W→PAt r W→Calls Tryz.prog 20 #[.slice q.a n q.c,.slice r.a n r.c] W fun e w'=>e=.returned (.bool true)∧Below W.heap.size W w'):=by rw [hPAt];exact HRQ
 replace HRM:Hid (x.small→∀ q base W,PZ q base W→PO q→base≤W.heap.size→Calls Tryz.prog 21 #[.slice q.a n q.c,.int .i64 1] W fun e w'=>e=.returned (.int .i64 (1+(n:Nat)))∧PM q base w'∧Wrote base (PE q) W w'):=by rw [hPZ,hPO,hPM,hPE];exact HRM
 replace HRH:Hid (x.small→∀ q W,PK q W→Calls Tryz.prog 22 #[.slice q.a n q.c,.int .i64 1] W fun e w'=>e=.returned (.int .i64 (1+(n:Nat)))∧Below W.heap.size W w'):=by rw [hPK];exact HRH
 replace LZK:Hid (∀ q base W W',PZ q base W→Below W.heap.size W W'→PZ q base W'):=by rw [hPZ];exact LZK
 replace LZA:Hid (∀ q base W,PZ q base W→PAt q W):=by rw [hPZ,hPAt];exact LZA
 replace LMA:Hid (∀ q base W,PM q base W→PK q W):=by rw [hPM,hPK];exact LMA
 replace LAK:Hid (∀ q W W',PAt q W→Below W.heap.size W W'→PAt q W'):=by rw [hPAt];exact LAK
 replace LMK:Hid (∀ q base W W',PM q base W→Below W.heap.size W W'→PM q base W'):=by rw [hPM];exact LMK
 replace LZW:Hid (∀ q base lo S W W',PZ q base W→Wrote lo S W W'→(∀ s∈S,∀ t∈PE q,offA s t)→PZ q base W'):=by rw [hPZ,hPE];exact LZW
 replace LZL:Hid (∀ q base W,PZ q base W→∀ t∈PE q,∀ g,t.map (·.block)=some g→base≤g∧g < W.heap.size):=by rw [hPZ,hPE];exact LZL
 clear hPAt hPZ hPO hPM hPE hPK hn
 obtain ⟨gc,hgc⟩:∃ f,f=gcells x:=⟨_,rfl⟩
 rw [← hgc] at hb VL HA HE HEL HTB HSL HSZ HGL HG1 HSG HTA HTO HEQ HMK HSP HIM
 rw [← hgc]
 clear hgc
 go_enter Tryz.func6,Tryz.ntmps6
 go_upto_region 2 with fail
 generalize w.alloc (.cells (gc p).toArray 37)=w1 at *
 refine wp_region_list ?_
 refine wpList_load_mid rfl 37 _ rfl w.heap.size 0 rfl (gc p) _ VL.out.range Tryz.underlying37 rfl (HSL.out p) ?_
 go_wp2_with fail
 refine (HSG.out _ HA.out).mono ?_
 rintro e w2 ⟨l1,rfl,z1,hd⟩
 replace HA:=Lh (Gam.At.kept HA.out hd)
 replace hb:=hb.trans (hd.mono hb.size)
 replace VL:=Lh (VL.out.kept hd)
 replace HE:=Lh (HE.out.kept hd)
 replace HEL:=Lh (HEL.out.kept hd)
 replace HTB:=Lh (HTB.out.kept hd)
 clear hd
 rcases z1 with rfl | ⟨y1,z1⟩
 ·go_wp2
  go_ret
  exact ⟨rfl,hb⟩
 have n1:¬ l1 < 0:=by omega
 have hsm:x.small:=by
  unfold Gam.sz Stp.sz Tls.sz at z1
  refine ⟨⟨⟨?_,?_⟩,?_⟩,?_,?_,?_⟩<;>omega
 have hlz:x.setup.tiles.letters.size≤1048576:=by
  unfold Gam.sz Stp.sz Tls.sz at z1
  omega
 have hwz:x.last.play.word.size≤1048576:=by
  unfold Gam.sz Lst.sz Ply.sz at z1
  omega
 replace HTO:=Lh (HTO.out hsm)
 replace HTA:=Lh (HTA.out hsm)
 replace HMK:=Lh (HMK.out hsm)
 replace HSP:=Lh (HSP.out hsm)
 replace HRQ:=Lh (HRQ.out hsm)
 replace HRM:=Lh (HRM.out hsm)
 replace HRH:=Lh (HRH.out hsm)
 replace HIM:=Lh (HIM.out hsm hlz hwz)
 clear z1 y1 hsm hlz hwz HSG
 go_upto_region 5 with fail
 refine wp_region_list ?_
 refine wpList_load_mid rfl 37 _ rfl w.heap.size 0 rfl (gc p) _ VL.out.range Tryz.underlying37 rfl (HSL.out p) ?_
 go_wp2_with fail
 refine (HTA.out _ HA.out).mono ?_
 rintro e w3 ⟨q1,rfl,ho,hd⟩
 have S9:=Lh ho
 clear ho
 replace HA:=Lh (Gam.At.kept HA.out hd)
 replace hb:=hb.trans (hd.mono hb.size)
 replace VL:=Lh (VL.out.kept hd)
 replace HE:=Lh (HE.out.kept hd)
 replace HEL:=Lh (HEL.out.kept hd)
 replace HTB:=Lh (HTB.out.kept hd)
 clear hd
 go_wp2_with fail
 refine (HSP.out _ _ S9.out).mono ?_
 rintro e w4 ⟨q0,rfl,hs,hd⟩
 have S1:=Lh hs
 clear hs
 replace HA:=Lh (Gam.At.kept HA.out hd)
 replace hb:=hb.trans (hd.mono hb.size)
 replace VL:=Lh (VL.out.kept hd)
 replace HE:=Lh (HE.out.kept hd)
 replace HEL:=Lh (HEL.out.kept hd)
 replace HTB:=Lh (HTB.out.kept hd)
 clear hd
 clear S9 HSP
 go_upto_region 6 with fail
 generalize w4=w5 at *
 have VLA:=VL
 have HAA:=HA
 have S1A:=S1
 have HEA:=HE
 have HELA:=HEL
 have HTBA:=HTB
 have hbA:=hb
 replace hb:Below w5.heap.size w5 w5:=Below.refl _ _
 refine wp_region_list ?_
 refine wpList_load_mid rfl 37 _ rfl w.heap.size 0 rfl (gc p) _ VL.out.range Tryz.underlying37 rfl (HSL.out p) ?_
 go_wp2_with fail
 refine (HTO.out _ HA.out).mono ?_
 rintro e w6 ⟨q2,rfl,hz2,hof2,hd⟩
 have O9:=Lh hz2
 have HOF:=Lh hof2
 clear hz2 hof2 HTO
 replace hb:=hb.trans (hd.mono hb.size)
 clear hd
 have V6:=VarAt.new w6 48 gzero
 obtain ⟨o6,k6⟩:=V6.put (gc q2) (by rw [HGL.out];rfl)
 have tR:=V6.there (n:=(gc q2).length) (by rw [HGL.out];rfl)
 have hd:Below w6.heap.size w6 ((w6.alloc (.cells gzero.toArray 48)).setCells w6.heap.size 0 (gc q2)):=((Below.refl _ _).alloc (Nat.le_refl _) _).grown k6 (by simp) (fun q h=>by cases h;exact Nat.le_refl _)
 have VX:=Lh o6
 clear V6 o6 k6
 go_upto_region 7 with (refine wpList_store_mid rfl 48 _ _ rfl w6.heap.size 0 (gc q2).toArray rfl rfl tR (HSZ.out q2) (all_oneCell_toArray (HG1.out q2)) ?_)
 clear tR
 change Code.wp _ _ _ _ ((w6.alloc (.cells gzero.toArray 48)).setCells w6.heap.size 0 (gc q2))
 replace O9:=Lh (O9.out.kept hd)
 replace hb:=hb.trans (hd.mono hb.size)
 clear hd
 generalize (w6.alloc (.cells gzero.toArray 48)).setCells w6.heap.size 0 (gc q2)=w7 at *
 generalize w6.heap.size=x6 at *
 have hb7:=hb.size
 have HN7:Hid (∀ s∈x.effs q2,∀ g,s.map (·.block)=some g→g < w7.heap.size):=Lh (fun s hs g h=>(O9.out.lt s hs g h).2)
 refine wp_region_list ?_
 refine wpList_load_mid rfl 48 _ rfl x6 0 rfl (gc q2) _ VX.out.range Tryz.underlying48 rfl (HSZ.out q2) ?_
 go_wp2_with fail
 refine (HIM.out _ _ O9.out.at (HEA.out.kept hb) (HELA.out.kept hb) (HTBA.out.kept hb)).mono ?_
 rintro e w8 ⟨q5,rfl,hz5,hof5,hd⟩
 have Z5:=Lh hz5
 have HO5:=Lh hof5
 clear hz5 hof5
 have hs78:=hd.size
 have hs7:=hd.size
 replace O9:=Lh (O9.out.kept hd)
 replace hb:=hb.trans (hd.mono hb.size)
 replace VX:=Lh (VX.out.kept hd)
 clear hd
 go_upto_region 8 with fail
 generalize w8=w9 at *
 have S1:=Lh (LAK.out _ _ _ S1A.out hb)
 have hkk:(kc != kc)=false:=by simp
 go_wp2_with fail
 refine (HRQ.out _ _ _ (LZA.out _ _ _ Z5.out) S1.out).mono ?_
 rintro e wa ⟨rfl,hd⟩
 replace O9:=Lh (O9.out.kept hd)
 replace Z5:=Lh (LZK.out _ _ _ _ Z5.out hd)
 replace hs7:=Nat.le_trans hs7 hd.size
 replace hb:=hb.trans (hd.mono hb.size)
 replace VX:=Lh (VX.out.kept hd)
 clear hd
 clear S1
 go_upto_region 10 with fail
 have hd:Below wa.heap.size wa wa.drew:=(Below.refl _ _).drew
 replace O9:=Lh (O9.out.kept hd)
 replace Z5:=Lh (LZK.out _ _ _ _ Z5.out hd)
 replace hs7:=Nat.le_trans hs7 hd.size
 replace hb:=hb.trans (hd.mono hb.size)
 replace VX:=Lh (VX.out.kept hd)
 clear hd
 have VL:=Lh (VLA.out.kept hb)
 have HA:=Lh (Gam.At.kept HAA.out hb)
 refine wp_region_held_drew (S:=fun w'=>w'.rangeAt x6 0 (gc q2)∧w'.rangeAt w.heap.size 0 (gc p)) (by kernel_rfl) ⟨VX.out.range,VL.out.range⟩ (fun hHeld=>?_)
 refine wpAnyH_take (i:=0) (oi:=_) (v:=_) rfl (by kernel_rfl) (by kernel_rfl) (by kernel_rfl) (fun _ _ _ h=>h) (yieldsIf_load_mid (by rfl) 48 _ rfl x6 0 rfl (gc q2) _ (fun _ h=>h.1) Tryz.underlying48 rfl (HSZ.out q2)) (by assumption) ?_
 simp only [Act.put,List.setIfInBounds_toArray]
 refine wpAnyH_take (i:=1) (oi:=_) (v:=_) rfl (by kernel_rfl) (by kernel_rfl) (by kernel_rfl) (fun _ _ _ h=>h) (yieldsIf_load_mid (by rfl) 37 _ rfl w.heap.size 0 rfl (gc p) _ (fun _ h=>h.2) Tryz.underlying37 rfl (HSL.out p)) (by assumption) ?_
 simp only [Act.put]
 refine wpAnyH_ready (rs:=[2]) (by kernel_rfl) (by simp) ?_
 refine AllReadyH.cons (o:=_) rfl (fun K hK=>?_) AllReadyH.nil
 go_simp
 refine (HTA.out _ HA.out).mono ?_
 rintro e wb ⟨q3,rfl,hoq,hd⟩
 have S3:=Lh hoq
 clear hoq
 replace O9:=Lh (O9.out.kept hd)
 replace Z5:=Lh (LZK.out _ _ _ _ Z5.out hd)
 replace hs7:=Nat.le_trans hs7 hd.size
 replace hb:=hb.trans (hd.mono hb.size)
 replace VX:=Lh (VX.out.kept hd)
 replace VL:=Lh (VL.out.kept hd)
 clear hd
 clear HA
 go_wp2_with fail
 refine hK.out _ _ ⟨VX.out.range,VL.out.range⟩ (fun hHeld2=>?_)
 clear hK K hHeld
 refine wpAnyH_ready (rs:=[3]) (by kernel_rfl) (by simp) ?_
 refine AllReadyH.cons (o:=_) rfl (fun K hK=>?_) AllReadyH.nil
 go_simp
 refine (HEQ.out _ _ _ O9.out.at S3.out).mono ?_
 rintro e wc ⟨rfl,hd⟩
 replace O9:=Lh (O9.out.kept hd)
 replace Z5:=Lh (LZK.out _ _ _ _ Z5.out hd)
 replace hs7:=Nat.le_trans hs7 hd.size
 replace hb:=hb.trans (hd.mono hb.size)
 replace VX:=Lh (VX.out.kept hd)
 replace VL:=Lh (VL.out.kept hd)
 clear hd
 clear HEQ S3
 go_wp2_with fail
 refine hK.out _ _ ⟨VX.out.range,VL.out.range⟩ (fun hHeld=>?_)
 clear hK K hHeld2
 refine wpAnyH_ready (rs:=[4]) (by kernel_rfl) (by simp) ?_
 refine AllReadyH.cons (o:=_) rfl (fun K hK=>?_) AllReadyH.nil
 go_simp
 refine hK.out _ _ ⟨VX.out.range,VL.out.range⟩ (fun hHeld2=>?_)
 clear hK K hHeld
 refine wpAnyH_done (by kernel_rfl) ?_ _
 clear hHeld2 VL
 generalize wc=wd at *
 go_upto_region 13 with fail
 refine wp_region_list ?_
 refine wpList_load_mid rfl 48 _ rfl x6 0 rfl (gc q2) _ VX.out.range Tryz.underlying48 rfl (HSZ.out q2) ?_
 go_wp2_with fail
 refine (HMK.out _ _ _ O9.out HOF.out hb.size).mono ?_
 rintro e we ⟨rfl,hw⟩
 replace hs7:=Nat.le_trans hs7 hw.size
 replace hb:=hb.trans hw.below
 replace Z5:=Lh (LZW.out _ _ _ _ _ _ Z5.out hw (fun s hs t ht=>off_of_lt (HN7.out s hs) (fun g h=>(LZL.out _ _ _ Z5.out t ht g h).1)))
 clear hw O9 VX HN7 HOF HMK
 have hq1:¬ ((1:Int)+((x.cnt:Nat):Int)) < 0:=by omega
 generalize x.cnt=xc at *
 have S1:=Lh (LAK.out _ _ _ S1A.out hb)
 go_wp2_with fail
 refine (HRQ.out _ _ _ (LZA.out _ _ _ Z5.out) S1.out).mono ?_
 rintro e wf ⟨rfl,hd⟩
 replace Z5:=Lh (LZK.out _ _ _ _ Z5.out hd)
 replace hs7:=Nat.le_trans hs7 hd.size
 replace hb:=hb.trans (hd.mono hb.size)
 clear hd
 clear S1 hq1
 go_upto_region 17 with fail
 go_wp2_with fail
 refine (HRM.out _ _ _ Z5.out HO5.out hs7).mono ?_
 rintro e wg ⟨rfl,hz6,hw⟩
 have M5:=Lh hz6
 clear hz6
 replace hb:=hb.trans (hw.below.mono hb7)
 clear hw Z5 HO5 hs7
 have hq2:¬ ((1:Int)+(n:Int)) < 0:=by omega
 have hq3:((1:Int)+(n:Int) != 1+(n:Int))=false:=by simp
 go_upto_region 19 with fail
 go_wp2_with fail
 refine (HRH.out _ _ (LMA.out _ _ _ M5.out)).mono ?_
 rintro e wh ⟨rfl,hd⟩
 replace M5:=Lh (LMK.out _ _ _ _ M5.out hd)
 replace hb:=hb.trans (hd.mono hb.size)
 clear hd
 go_upto_region 24 with fail
 have VL:=Lh (VLA.out.kept hb)
 have HA:=Lh (Gam.At.kept HAA.out hb)
 refine wp_region_list ?_
 refine wpList_load_mid rfl 37 _ rfl w.heap.size 0 rfl (gc p) _ VL.out.range Tryz.underlying37 rfl (HSL.out p) ?_
 go_wp2_with fail
 refine (HTA.out _ HA.out).mono ?_
 rintro e wi ⟨q6,rfl,hoq,hd⟩
 have S6:=Lh hoq
 clear hoq VL HA
 replace M5:=Lh (LMK.out _ _ _ _ M5.out hd)
 replace hb:=hb.trans (hd.mono hb.size)
 clear hd
 go_wp2_with fail
 refine (HIM.out _ _ S6.out (HEA.out.kept hb) (HELA.out.kept hb) (HTBA.out.kept hb)).mono ?_
 rintro e wj ⟨q7,rfl,hz7,hof7,hd⟩
 have Z7:=Lh hz7
 clear hz7 hof7 S6
 replace M5:=Lh (LMK.out _ _ _ _ M5.out hd)
 replace hb:=hb.trans (hd.mono hb.size)
 clear hd
 go_upto_region 25 with fail
 generalize wj=wk at *
 have S1:=Lh (LAK.out _ _ _ S1A.out hb)
 go_wp2_with fail
 refine (HRQ.out _ _ _ (LZA.out _ _ _ Z7.out) S1.out).mono ?_
 rintro e wl ⟨rfl,hd⟩
 replace M5:=Lh (LMK.out _ _ _ _ M5.out hd)
 replace hb:=hb.trans (hd.mono hb.size)
 clear hd
 clear S1 Z7
 go_upto_region 28 with fail
 go_wp2_with fail
 refine (HRH.out _ _ (LMA.out _ _ _ M5.out)).mono ?_
 rintro e wm ⟨rfl,hd⟩
 replace hb:=hb.trans (hd.mono hb.size)
 clear hd
 go_wp2
 go_ret
 exact ⟨rfl,hbA.trans (hb.mono hbA.size)⟩
end Go.Proofs.YtkjhapbjdjcipaaGreatDoor
set_option maxRecDepth 100000
namespace Go.Proofs.YtkjhapbjdjcipaaGreatDoor
open Go.ChangeShapes Go.WideShapes Go.ChangeAt Go.RowKit Go.Sort Go.Joins Go.Deep
open Go.ChangeMaps (open_string shut_string)

theorem lifted_GameLines (os:Os) (started:os.Started) (H:Type) (enc:TypeId × Value→H) :
  ReturnsInHanded {} Tryz.checked os 6 .any (fun w args=>(Rows.fnExactGameLinesSpec.pre enc Tryz.prog Tryz.f6 [] false w args∧laidMetH Tryz.prog Rows.fnExactGameLinesRow.laid w)∧sizedMet enc Tryz.prog Tryz.f6 (OpenSpec.ofChange Rows.fnExactGameLinesSpec) false w args)
   (Rows.fnExactGameLinesSpec.post enc Tryz.prog Tryz.f6 false true false false):=by
 refine returnsInHanded_of_laid_shaped (C:=Tryz.checked) (X:=fun w _=>laidMetH Tryz.prog Rows.fnExactGameLinesRow.laid w) (fun _ _ _ hh h=>h.of_heap hh) own started (by kernel_rfl) Tryz.func6
  (ChangeSpec.witness_shaped (enc:=enc) (C:=Tryz.checked) (os:=os) (X:=fun w _=>laidMetH Tryz.prog Rows.fnExactGameLinesRow.laid w) false (doorCase os) #[.agg #[.string ⟨#[]⟩,.slice none 0 0,.slice none 0 0,.int .i64 0,.slice none 0 0,.int .i64 0,.string ⟨#[]⟩,.string ⟨#[]⟩,.int .i64 0,.int .i64 0,.int .i64 0,.string ⟨#[]⟩,.string ⟨#[]⟩,.string ⟨#[]⟩,.slice none 0 0,.slice none 0 0,.slice none 0 0,.int .i64 0,.int .i64 0,.int .i64 0,.int .i64 0,.int .i64 0,.int .i64 0,.bool false,.string ⟨#[]⟩,.string ⟨#[]⟩,.string ⟨#[]⟩,.int .i64 0,.int .i64 0,.bool false]] 8 rfl (World.shaped_of_RefB (by kernel_rfl) (by kernel_rfl)) (by kernel_rfl) (by kernel_rfl) (by kernel_rfl) (laidMetH_of_parts3 (fuel:=8) (door_six_met os _) (by kernel_rfl) (by kernel_rfl))) ?_
 intro W base args ds gs before hval0 hW hL hsh
 have hval:∀ (j:Nat) t v,Tryz.f6.params[j]?=some t→args[j]?=some v→Value.okWide Tryz.prog W .any base t v:=hval0
 have hW':=hW
 obtain ⟨p,q,hA0,hV,rfl,hfz,hnd⟩:=hW
 have hA:DataW.TrodAll enc Tryz.prog W 0 (fun _=>true) true Tryz.f6.params.toList args.toList ds p:=hA0
 rw [Tryz.params6] at hA hval
 obtain ⟨v0,vs0,d0,ds0,p0,q0,hargs,rfl,rfl,h0,r0⟩:=trodAll_cons hA
 obtain ⟨rfl,rfl,rfl⟩:=trodAll_nil r0
 obtain rfl:args=#[v0]:=by cases args;simp_all
 obtain ⟨rfl,rfl⟩:=trodVars_none hV
 have k0:=h0
 have lt0:∀ x∈p0,x.block < W.heap.size:=by obtain ⟨m,hm⟩:=k0;exact DataW.trod_lt m _ _ _ hm
 obtain ⟨g,q_g,rfl,ha_g,hf_g⟩:=Game.read (hval 0 37 v0 rfl rfl) h0
 clear hA0 hval0
 refine (lawGameLines_any g q_g W ha_g hf_g (cenv_of_six (six_GameLines hL)) (Tryz.laysM155.s1_3 W hsh) (tab_of_six (six_GameLines hL))).mono fun e W' ⟨he,bel⟩=>?_
 subst he
 exact ⟨_,rfl,_,_,_,[],_,[],hW',trodAll_mk1 (shut_bool Tryz.underlying4 _),(trodAll_cons_mk (Below.trod laidOut (by kernel_rfl) (of_decide_eq_true (by kernel_rfl)) k0 bel lt0) trodAll_mk0),rfl,bel.frame _,fun h=>by cases h⟩
end Go.Proofs.YtkjhapbjdjcipaaGreatDoor
