/- Contracts: a turn without points and the end of a game, in a box: the program. A valid game whose action may begin. · Contracts: a turn without points: the program. A valid game whose action may begin. · Contracts: a pass: the program. Go's tables of unicode and unicode/utf8 hold what is laid (CEnv), internal/bytealg's MaxLen a number (EnvL); texts fit. -/
import Derived.Test.YtkjhapbjdjcipaaGreatDoorGpJ
import Derived.Test.YtkjhapbjdjcipaaGreatDoorGpC
set_option maxRecDepth 100000
set_option maxHeartbeats 4000000
namespace Go.Proofs.YtkjhapbjdjcipaaGreatDoor
open Go.ChangeShapes Go.WideShapes Go.ChangeAt Go.RowKit Go.Sort

theorem clock_cell {w:World} {base c:Nat} {a:Option Addr} {ms:List Int} (h:IZ w base a c ms) (hl:ms.length=2):∃ gb,a=some ⟨gb,0,none⟩∧w.cell? ⟨gb,0,none⟩=some (.int .i64 (ms.getD 0 0))∧w.cell? ⟨gb,1,none⟩=some (.int .i64 (ms.getD 1 0))∧w.frozen? ⟨gb,0,none⟩=false∧w.frozen? ⟨gb,1,none⟩=false:=by
 obtain ⟨gb,rfl,_,_,ho⟩:=h.block (by omega)
 obtain ⟨a,b,rfl⟩:∃ a b,ms=[a,b]:=⟨_,_,two_list hl⟩
 exact ⟨gb,rfl,ho.cellAt 0 (by show 0 < 2;decide),ho.cellAt 1 (by show 1 < 2;decide),ho.frozenAt 0,ho.frozenAt 1⟩
theorem Gam.Cf.chg_range {x:Gam} (h:x.Cf) {k:Nat} (hk:k < 2):-6150≤x.chg k∧x.chg k≤140:=by
 have hg:=Tls.good h.tiles
 have h1:=hg.sum_range (x.rack k) (x.rack k).size
 have h2:=hg.sum_range (x.rack (1 - k)) (x.rack (1 - k)).size
 have h3:=h.rack k hk
 have h4:=h.rack (1 - k) (by omega)
 have h5:=pen_range (h.clock k hk).1
 unfold Gam.chg Tls.sum
 split<;>omega
theorem settle_any (x:Gam) (q:GaA) (g base:Nat) (b:Bool) (w:World) (hg:GBox w base g x q) (hc:x.Cf) (hl:x.scores.length=2) (hs0:-200000≤x.scores.getD 0 0∧x.scores.getD 0 0≤200000) (hs1:-200000≤x.scores.getD 1 0∧x.scores.getD 1 0≤200000) :
  Calls Tryz.prog 42 #[.pointer (some ⟨g,0,none⟩),.bool b] w fun e w'=>e=.returned (.tuple #[])∧GBox w' base g (if b=true then x.settled else x) q∧Below base w w':=by
 have HB:=Lh hg
 cases b with
 | false =>
  have hb:=Below.refl base w
  clear hg hc hl hs0 hs1
  go_enter Tryz.func42,Tryz.ntmps42
  go_wp2
  (try simp only [Exit.inBlock,Exit.then])
  refine bodyPost_ret (results_none rfl _ _ _) rfl ?_
  exact ⟨rfl,HB.out,hb⟩
 | true =>
  have r0:=hc.chg_range (k:=0) (by omega)
  have r1:=hc.chg_range (k:=1) (by omega)
  have HFC:Hid (∀ W,x.At q W→Calls Tryz.prog 87 #[.agg (gcells x q).toArray] W (NumsPost W x.change)):=Lh (fun W h=>finalChange_any x q W h hc)
  have HSZ:=Lh (size_game x q)
  have EQB:Hid (x.settled={ x with scores:=[x.scores.getD 0 0+x.chg 0,x.scores.getD 1 0+x.chg 1],over:=true }):=Lh rfl
  have HCH:Hid (x.change=[x.chg 0,x.chg 1]):=Lh rfl
  have EX:x={ x with scores:=[x.scores.getD 0 0,x.scores.getD 1 0] }:=by rw [← two_list hl]
  have HB0:=HB
  have EX2:=Lh EX
  clear hg hc
  generalize x.chg 0=c0 at *
  generalize x.chg 1=c1 at *
  generalize x.scores.getD 0 0=n0 at *
  generalize x.scores.getD 1 0=n1 at *
  have RG:=HB.out.var.range
  have AG:=HB.out.rows.at
  obtain ⟨gb,hq,t0,_⟩:=clock_cell HB.out.rows.scores hl
  have HGL:=Lh (block_lt t0)
  have HQ:=Lh hq
  clear hq t0
  obtain ⟨cs,hcs⟩:∃ cs,cs=gcells x q:=⟨_,rfl⟩
  rw [← hcs] at HFC HSZ RG
  clear hcs EX
  go_enter Tryz.func42,Tryz.ntmps42
  go_upto_region 1 with fail
  refine wp_region_list ?_
  go_wp2_with (refine wpList_load_mid rfl 48 _ rfl g 0 rfl cs _ RG Tryz.underlying48 rfl HSZ.out ?_)
  clear RG
  go_wp2_with fail
  refine (HFC.out _ AG).mono ?_
  rintro e w2 ⟨gn,cap,rfl,ho,hd⟩
  rw [Gam.change_len]
  rw [Gam.change_len,HCH.out] at ho
  have HN0:=Lh ho
  have HB2:Hid (GBox w2 base g { x with scores:=[n0,n1] } q):=Lh (EX2.out ▸ HB0.out.kept hd)
  have hb0:=hd.mono HB0.out.size
  clear HB HB0 ho hd HFC HSZ HCH AG hl EX2
  go_upto_region 2 with fail
  go_loopw [4,5,13] (fun _ _ kv wr=>∃ k:Nat,∃ a b:Int,k≤2∧kv=.int .i64 k∧(k=0→a=n0∧b=n1)∧(k=1→a=n0+c0∧b=n1)∧(k=2→a=n0+c0∧b=n1+c1)∧Hid (GBox wr base g { x with scores:=[a,b] } q)∧Hid (wr.ownsRow w.heap.size 2 1 (.slice (some ⟨gn,0,none⟩) 2 cap) 2 ([c0,c1].flatMap I64.enc))∧Below base w wr) (fun _ _ kv _=>2 - (intOf kv).toNat)
  case atStart=>exact ⟨0,n0,n1,Nat.zero_le _,rfl,fun _=>⟨rfl,rfl⟩,fun h=>absurd h (by decide),fun h=>absurd h (by decide),HB2,HN0,hb0⟩
  case round =>
   clear HB2 HN0 hb0
   obtain ⟨k,a,b,hk,rfl,g0,g1,g2,HB,HN,hb⟩:=hrel
   obtain rfl | rfl | rfl:k=0∨k=1∨k=2:=by omega
   ·obtain ⟨rfl,rfl⟩:=g0 rfl
    clear g0 g1 g2
    have d0:=HN.out.cellAt 0 (by show 0 < 2;decide)
    have cc:wr.cell? ⟨gn,0,none⟩=some (.int .i64 c0):=by rw [d0];rfl
    obtain ⟨gb2,hq2,t0,t1,f0,f1⟩:=clock_cell HB.out.rows.scores rfl
    rw [HQ.out] at hq2
    cases hq2
    have tt:wr.cell? ⟨gb,0,none⟩=some (.int .i64 a):=t0
    have ff:=f0
    have c15:=HB.out.cell (i:=15) (v:=.slice q.scores.a 2 q.scores.c) rfl
    rw [HQ.out] at c15
    have wr9:IntKind.i64.wrap (a+c0)=a+c0:=IntWalk.i64_in _ (by omega)
    obtain ⟨B2,b2⟩:=HB.out.score HQ.out (by show 0 < 2;decide) 0 (a+c0)
    have H2:Hid (GBox (wr.setCell ⟨gb,0,none⟩ (.int .i64 (a+c0))) base g { x with scores:=[a+c0,b] } q):=Lh B2
    obtain ⟨gb3,e3,_,_,ho3⟩:=HB.out.rows.scores.block (by show 0 < 2;decide)
    rw [HQ.out] at e3
    cases e3
    have hgr:=(World.ownsRow.stored ho3 0 (.int .i64 (a+c0))).2
    have N2:=Lh (row_store HN.out hgr HGL.out)
    have hb2:=hb.trans b2
    clear d0 t0 t1 f0 f1 B2 b2 hgr ho3 HB HN hb
    go_wp2
    generalize wr.setCell ⟨gb,0,none⟩ (.int .i64 (a+c0))=w8 at *
    go_roundw
    case rel=>exact ⟨0+1,a+c0,b,by omega,by go_num,fun h=>absurd h (by decide),fun h=>(by first | exact ⟨rfl,rfl⟩ | exact absurd h (by decide)),fun h=>(by first | exact ⟨rfl,rfl⟩ | exact absurd h (by decide)),H2,N2,hb2⟩
    case measure=>simp [intOf]
   ·obtain ⟨rfl,rfl⟩:=g1 rfl
    clear g0 g1 g2
    have d0:=HN.out.cellAt 1 (by show 1 < 2;decide)
    have cc:wr.cell? ⟨gn,1,none⟩=some (.int .i64 c1):=by rw [d0];rfl
    obtain ⟨gb2,hq2,t0,t1,f0,f1⟩:=clock_cell HB.out.rows.scores rfl
    rw [HQ.out] at hq2
    cases hq2
    have tt:wr.cell? ⟨gb,1,none⟩=some (.int .i64 b):=t1
    have ff:=f1
    have c15:=HB.out.cell (i:=15) (v:=.slice q.scores.a 2 q.scores.c) rfl
    rw [HQ.out] at c15
    have wr9:IntKind.i64.wrap (b+c1)=b+c1:=IntWalk.i64_in _ (by omega)
    obtain ⟨B2,b2⟩:=HB.out.score HQ.out (by show 0 < 2;decide) 1 (b+c1)
    have H2:Hid (GBox (wr.setCell ⟨gb,1,none⟩ (.int .i64 (b+c1))) base g { x with scores:=[n0+c0,b+c1] } q):=Lh B2
    obtain ⟨gb3,e3,_,_,ho3⟩:=HB.out.rows.scores.block (by show 0 < 2;decide)
    rw [HQ.out] at e3
    cases e3
    have hgr:=(World.ownsRow.stored ho3 1 (.int .i64 (b+c1))).2
    have N2:=Lh (row_store HN.out hgr HGL.out)
    have hb2:=hb.trans b2
    clear d0 t0 t1 f0 f1 B2 b2 hgr ho3 HB HN hb
    go_wp2
    generalize wr.setCell ⟨gb,1,none⟩ (.int .i64 (b+c1))=w8 at *
    go_roundw
    case rel=>exact ⟨1+1,n0+c0,b+c1,by omega,by go_num,fun h=>absurd h (by decide),fun h=>(by first | exact ⟨rfl,rfl⟩ | exact absurd h (by decide)),fun h=>(by first | exact ⟨rfl,rfl⟩ | exact absurd h (by decide)),H2,N2,hb2⟩
    case measure=>simp [intOf]
   ·obtain ⟨rfl,rfl⟩:=g2 rfl
    clear g0 g1 g2 HN
    have c29:=HB.out.cell (i:=29) (v:=.bool x.over) rfl
    have f29:=HB.out.free 29
    obtain ⟨B2,b2⟩:=HB.out.put (y:={ x with scores:=[n0+c0,n1+c1],over:=true }) 29 (.bool true) rfl ⟨⟨rfl,rfl,rfl⟩,rfl,rfl,rfl⟩
    have H2:=Lh B2
    have hb2:=hb.trans b2
    clear B2 b2 hb HB
    go_wp2
    go_end0
    exact ⟨rfl,by rw [EQB.out];exact H2.out,hb2⟩
end Go.Proofs.YtkjhapbjdjcipaaGreatDoor

namespace Go.Proofs.YtkjhapbjdjcipaaGreatDoor
open Go.ChangeShapes Go.WideShapes Go.ChangeAt Go.RowKit Go.Sort

theorem lstCells_one (m:Lst):∀ v∈lstCells m,v.oneCell'=true:=by
 intro v hv
 simp only [lstCells,List.mem_cons,List.not_mem_nil,or_false] at hv
 rcases hv with rfl | rfl | rfl | rfl | rfl | rfl | rfl | rfl | rfl | rfl<;>rfl
theorem size_last (m:Lst):(Tryz.prog.info? 46).map (·.size)=some (lstCells m).length:=by kernel_rfl
theorem Gam.Rows.refl (x:Gam):x.Rows x:=⟨⟨rfl,rfl,rfl⟩,rfl,rfl,rfl⟩
end Go.Proofs.YtkjhapbjdjcipaaGreatDoor

namespace Go.Proofs.YtkjhapbjdjcipaaGreatDoor
open Go.ChangeShapes Go.WideShapes Go.ChangeAt Go.RowKit Go.Sort

/-- a game of the call's own, and a code -/
def TurnPost (r:Gam × Int) (w:World) (e:Ending) (w':World):Prop :=
 ∃ q:GaA,e=.returned (.tuple #[.agg (gcells r.1 q).toArray,.int .i64 r.2])∧r.1.Z q w.heap.size w'∧r.1.Off q∧Below w.heap.size w w'
def qnone:GaA:=⟨⟨⟨⟨none,0⟩,⟨none,0⟩⟩,⟨none,0⟩⟩,⟨none,0⟩,⟨none,0⟩,⟨none,0⟩⟩
def gnil:List Value:=[.string ⟨#[]⟩,.slice none 0 0,.slice none 0 0,.int .i64 0,.slice none 0 0,.int .i64 0,.string ⟨#[]⟩,.string ⟨#[]⟩,.int .i64 0,.int .i64 0,.int .i64 0,.string ⟨#[]⟩,.string ⟨#[]⟩,.string ⟨#[]⟩,.slice none 0 0,.slice none 0 0,.slice none 0 0,.int .i64 0,.int .i64 0,.int .i64 0,.int .i64 0,.int .i64 0,.int .i64 0,.bool false,.string ⟨#[]⟩,.string ⟨#[]⟩,.string ⟨#[]⟩,.int .i64 0,.int .i64 0,.bool false]
theorem gnil_one:∀ v∈gnil,v.oneCell'=true:=gcells_all1 Gam.none qnone
theorem size_nil:(Tryz.prog.info? 48).map (·.size)=some gnil.length:=by kernel_rfl
theorem built_game:Tryz.prog.built 48 []=some gnil.toArray:=by kernel_rfl
theorem none_z (w:World) (base:Nat):Gam.none.Z qnone base w:=⟨⟨.inl rfl,.inl rfl,.inl rfl⟩,.inl rfl,.inl rfl,.inl rfl⟩
theorem none_off:Gam.none.Off qnone:=by
 have h:∀ t∈Gam.none.setup.effs qnone.setup,t=none:=by
  intro t ht
  simp only [Stp.effs,List.mem_cons,List.not_mem_nil,or_false] at ht
  rcases ht with rfl | rfl | rfl<;>rfl
 exact ⟨⟨offA_none _,offA_none _,offA_none _⟩,fun t ht=>by rw [h t ht];exact offA_none _,fun t ht=>by rw [h t ht];exact offA_none _,fun t ht=>by rw [h t ht];exact offA_none _,offA_none _,offA_none _,offA_none _⟩
theorem turn_none {r:Gam × Int} {w w':World} {c:Int} {e:Ending} (h:r=(Gam.none,c)) (he:e=.returned (.tuple #[.agg gnil.toArray,.int .i64 c])) (hb:Below w.heap.size w w'):TurnPost r w e w':=by
 subst h
 exact ⟨qnone,he,none_z _ _,none_off,hb⟩
theorem turn_some {r:Gam × Int} {w w':World} {y:Gam} {q:GaA} {base:Nat} {e:Ending} (h:r=(y,0)) (he:e=.returned (.tuple #[.agg (gcells y q).toArray,.int .i64 0])) (hz:y.Z q base w') (ho:y.Off q) (hbs:w.heap.size≤base) (hb:Below w.heap.size w w'):TurnPost r w e w':=by
 subst h
 exact ⟨q,he,hz.mono hbs,ho,hb⟩
theorem gnil_there {w:World} {g:Nat} (h:VarAt w g 48 gnil):w.there g 0 30:=h.there rfl
/-- a variable in front of what may be written -/
theorem VarAt.front {w w':World} {g lo:Nat} {t:TypeId} {cs:List Value} (h:VarAt w g t cs) (hb:Below lo w w') (hlt:g < lo):VarAt w' g t cs:=by
 refine ⟨h.1,?_⟩
 rcases h.2 with h0 | ⟨g2,cap,cur,hv,hge,hgg,rest⟩
 ·exact .inl h0
 ·have e:g2=g:=by
   simp only [Value.slice.injEq,Option.some.injEq,Addr.mk.injEq] at hv
   exact hv.1.1.symm
  subst e
  exact .inr ⟨g2,cap,cur,hv,hge,by rw [hb.block g2 hlt];exact hgg,rest⟩
end Go.Proofs.YtkjhapbjdjcipaaGreatDoor
