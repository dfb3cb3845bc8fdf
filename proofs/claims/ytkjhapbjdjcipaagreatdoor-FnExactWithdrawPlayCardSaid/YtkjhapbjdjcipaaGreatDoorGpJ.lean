/- Contracts: copies of games: the program. Rows of 2^20 elements at most. -/
import Derived.Test.YtkjhapbjdjcipaaGreatDoorGpI
set_option maxRecDepth 100000
set_option maxHeartbeats 8000000
namespace Go.Proofs.YtkjhapbjdjcipaaGreatDoor
open Go.ChangeShapes Go.WideShapes Go.ChangeAt Go.RowKit Go.Sort

theorem gcells_setup {w:World} {g:Nat} {x:Gam} {q:GaA} (h:w.rangeAt g 0 (gcells x q)):w.rangeAt g 0 (scells x.setup q.setup):=by
 intro j v hv
 unfold Go.Proofs.YtkjhapbjdjcipaaGreatDoor.scells at hv
 match j,hv with
 | 0,hv=>cases hv;exact range_cell h 0 rfl
 | 1,hv=>cases hv;exact range_cell h 1 rfl
 | 2,hv=>cases hv;exact range_cell h 2 rfl
 | 3,hv=>cases hv;exact range_cell h 3 rfl
 | 4,hv=>cases hv;exact range_cell h 4 rfl
 | 5,hv=>cases hv;exact range_cell h 5 rfl
 | 6,hv=>cases hv;exact range_cell h 6 rfl
 | 7,hv=>cases hv;exact range_cell h 7 rfl
 | 8,hv=>cases hv;exact range_cell h 8 rfl
 | 9,hv=>cases hv;exact range_cell h 9 rfl
/-- a copy in a box of the call's own -/
def CopPost (x:Gam) (w:World) (e:Ending) (w':World):Prop :=
 ∃ q:GaA,e=.returned (.pointer (some ⟨w.heap.size,0,none⟩))∧GBox w' w.heap.size w.heap.size x q∧Below w.heap.size w w'
theorem copyGame_any (x:Gam) (p:GaA) (w:World) (ha:x.At p w) (hs:x.small) :
  Calls Tryz.prog 53 #[.agg (gcells x p).toArray] w (CopPost x w):=by
 have hb:Below w.heap.size w (w.alloc (.cells (gcells x p).toArray 48)):=(Below.refl _ _).alloc (Nat.le_refl _) _
 have VI:=Lh (VarAt.new w 48 (gcells x p))
 have HA:=Lh (Gam.At.kept ha hb)
 have HA0:=Lh ha
 have HS:=Lh hs
 clear ha hs
 obtain ⟨gc,hgc⟩:∃ gc:GaA→List Value,∀ q,gcells x q=gc q:=⟨_,fun _=>rfl⟩
 rw [hgc p]
 rw [hgc p] at VI hb HA
 go_enter Tryz.func53,Tryz.ntmps53
 go_upto_region 1 with fail
 generalize w.alloc (.cells (gc p).toArray 48)=w1 at *
 have rS:w1.rangeAt w.heap.size 0 (scells x.setup p.setup):=gcells_setup (x:=x) (q:=p) (by rw [hgc p];exact VI.out.range)
 refine wp_region_list ?_
 go_wp2_with (refine wpList_load_mid rfl 43 _ rfl w.heap.size 0 rfl (scells x.setup p.setup) _ rS Tryz.underlying43 rfl (size_setup _ _) ?_)
 clear rS
 go_wp2_with fail
 refine (copySetup_any x.setup p.setup w1 HA.out.1 HS.out.1).mono ?_
 rintro e w2 ⟨r0,rfl,z0,o0,hd⟩
 have hz:=VI.out.lt
 have Z0:=Lh (z0.mono (Nat.succ_le_of_lt hz))
 have L0:∀ t∈x.setup.effs r0,∀ k,t.map (·.block)=some k→k < w2.heap.size:=fun t ht k hk=>(z0.lt t ht k hk).2
 replace HA:=Lh (Gam.At.kept HA.out hd)
 replace hb:=hb.trans (hd.mono hb.size)
 replace VI:=Lh (VI.out.kept hd)
 clear hd
 clear z0 hz
 go_upto_region 2 with (refine wpList_store_mid rfl 43 _ _ rfl w.heap.size 0 (scells x.setup r0).toArray rfl rfl (fun j hj=>VI.out.there (n:=30) (by rw [← hgc];rfl) j (Nat.lt_of_lt_of_le hj (by show 10≤30;decide))) (size_setup _ _) (all_oneCell_toArray (scells_one _ _)) ?_)
 have k7:=set_cells w.heap.size 48 (scells x.setup r0) 0 _ _ VI.out
 have V7:=(VarAt.setMany (scells x.setup r0) 0 VI.out).as (cs':=gc ⟨r0,p.racks,p.scores,p.clocks⟩) (by rw [← hgc,← hgc];rfl)
 replace Z0:=Lh (Z0.out.store k7 (Nat.lt_succ_self _))
 replace HA:Hid (Gam.At x ⟨r0,p.racks,p.scores,p.clocks⟩ (w2.setCells w.heap.size 0 (scells x.setup r0))):=Lh (by
  have h1:=HA0.out
  have h2:=(hb.grown k7 hb.size (fun k h=>by cases h;exact Nat.le_refl _))
  exact ⟨Z0.out.at,h1.2.1.kept h2,h1.2.2.1.kept h2,h1.2.2.2.kept h2⟩)
 have hle7:=k7.size
 replace hb:=hb.grown k7 hb.size (fun k h=>by cases h;exact Nat.le_refl _)
 replace VI:=Lh V7
 clear k7 V7
 change Code.wp _ _ _ _ (w2.setCells w.heap.size 0 (scells x.setup r0))
 generalize w2.setCells w.heap.size 0 (scells x.setup r0)=w3 at *
 have hd:Below w3.heap.size w3 w3.drew:=(Below.refl _ _).drew
 replace HA:=Lh (Gam.At.kept HA.out hd)
 replace Z0:=Lh (Z0.out.kept hd)
 replace L0:∀ t∈x.setup.effs r0,∀ k,t.map (·.block)=some k→k < w3.drew.heap.size:=fun t ht k hk=>Nat.lt_of_lt_of_le (L0 t ht k hk) (Nat.le_trans hle7 hd.size)
 replace hb:=hb.trans (hd.mono hb.size)
 replace VI:=Lh (VI.out.kept hd)
 clear hd
 clear HA0 hle7
 simp only [Act.put]
 refine wp_region_held_drew (S:=fun _=>True) (by kernel_rfl) trivial (fun hHeld=>?_)
 generalize w3.drew=wd at *
 refine slotA 0 7 (.pointer (some ⟨w.heap.size,14,none⟩)) ?_
 simp only [S3]
 refine slotA 3 10 (.pointer (some ⟨w.heap.size,15,none⟩)) ?_
 simp only [S3]
 refine slotA 6 13 (.pointer (some ⟨w.heap.size,16,none⟩)) ?_
 simp only [S3]
 refine wpAnyH_apart (σ:=Bool × Bool × Bool × Bool × Bool × Bool) (L:=fun s=>#[true,s.1,s.2.1,true,s.2.2.1,s.2.2.2.1,true,s.2.2.2.2.1,s.2.2.2.2.2,false,false,false,false,false,false]) (RS:=fun s=>(if s.1 then [] else [1])++(if s.1 then (if s.2.1 then [] else [2]) else [])++(if s.2.2.1 then [] else [4])++(if s.2.1 then (if s.2.2.1 then (if s.2.2.2.1 then [] else [5]) else []) else [])++(if s.2.2.2.2.1 then [] else [7])++(if s.2.2.2.1 then (if s.2.2.2.2.1 then (if s.2.2.2.2.2 then [] else [8]) else []) else [])) (m:=fun s=>cond s.1 0 1+cond s.2.1 0 1+cond s.2.2.1 0 1+cond s.2.2.2.1 0 1+cond s.2.2.2.2.1 0 1+cond s.2.2.2.2.2 0 1+6)
  (J:=fun s vs W=>(s.2.1=true→s.1=true)∧(s.2.2.2.1=true→s.2.1=true∧s.2.2.1=true)∧(s.2.2.2.2.2=true→s.2.2.2.1=true∧s.2.2.2.2.1=true)∧∃ D,Apart wd.heap.size W D∧Below wd.heap.size wd W∧(s.1=true→vs 8=.slice p.racks.a x.racks.length p.racks.c)∧(s.2.1=true→∃ r:Rwa,vs 9=.slice r.a x.racks.length r.c∧TZ W wd.heap.size r.a r.c x.racks∧D 1=[effA r.a x.racks])∧(s.2.2.1=true→vs 11=.slice p.scores.a x.scores.length p.scores.c)∧(s.2.2.2.1=true→∃ r:Rwa,vs 12=.slice r.a x.scores.length r.c∧IZ W wd.heap.size r.a r.c x.scores∧D 2=[effA r.a x.scores])∧(s.2.2.2.2.1=true→vs 14=.slice p.clocks.a x.clocks.length p.clocks.c)∧(s.2.2.2.2.2=true→∃ r:Rwa,vs 15=.slice r.a x.clocks.length r.c∧IZ W wd.heap.size r.a r.c x.clocks∧D 3=[effA r.a x.clocks]))
  (ks:=[8,9,11,12,14,15]) (s0:=(false,false,false,false,false,false)) (v0:=fun _=>undef) (by kernel_rfl) (by kernel_rfl) (by decide) ?hJ hHeld ?hr ?hm ?hend ?hstep
 case hr=>rintro ⟨_ | _,_ | _,_ | _,_ | _,_ | _,_ | _⟩ vs W hJ h<;>first | exact absurd rfl h | exact absurd (hJ.1 rfl) (by decide) | exact absurd (hJ.2.1 rfl).1 (by decide) | exact absurd (hJ.2.1 rfl).2 (by decide) | exact absurd (hJ.2.2.1 rfl).1 (by decide) | exact absurd (hJ.2.2.1 rfl).2 (by decide) | kernel_rfl
 case hm=>rintro ⟨_ | _,_ | _,_ | _,_ | _,_ | _,_ | _⟩ h<;>first | exact absurd rfl h | decide
 case hJ=>exact ⟨fun h=>h,fun h=>absurd h (by decide),fun h=>absurd h (by decide),fun _=>[],Apart.none _ _,Below.refl _ _,fun h=>absurd h (by decide),fun h=>absurd h (by decide),fun h=>absurd h (by decide),fun h=>absurd h (by decide),fun h=>absurd h (by decide),fun h=>absurd h (by decide)⟩
 case hstep =>
  rintro ⟨b1,b2,b4,b5,b7,b8⟩ vs W ⟨V1,V2,V3,D,hD,hB,h1,h2,h4,h5,h7,h8⟩ hS i hi K hK
  have hi':(i=1∧b1=false)∨(i=2∧b1=true∧b2=false)∨(i=4∧b4=false)∨(i=5∧b4=true∧b2=true∧b5=false)∨(i=7∧b7=false)∨(i=8∧b7=true∧b5=true∧b8=false):=by revert hi;cases b1<;>cases b2<;>cases b4<;>cases b5<;>cases b7<;>cases b8<;>simp
  have RW:=VI.out.kept hB
  have HAW:=Gam.At.kept HA.out hB
  replace h1:=Lh h1
  replace h2:=Lh h2
  replace h4:=Lh h4
  replace h5:=Lh h5
  replace h7:=Lh h7
  replace h8:=Lh h8
  rcases hi' with ⟨rfl,rfl⟩ | ⟨rfl,rfl,rfl⟩ | ⟨rfl,rfl⟩ | ⟨rfl,rfl,rfl,rfl⟩ | ⟨rfl,rfl⟩ | ⟨rfl,rfl,rfl,rfl⟩
  ·refine wpOp_step (o:=_) rfl (fun K2 hK2=>?_)
   simp only [fillA,List.foldl_cons,List.foldl_nil,List.setIfInBounds_toArray,List.set_cons_zero,List.set_cons_succ]
   have c9:=RW.cell (i:=14) (v:=.slice p.racks.a x.racks.length p.racks.c) (by rw [← hgc];rfl)
   go_simp
   exact hK2 _ _ (hK.out (true,b2,b4,b5,b7,b8) (upV vs 8 (.slice p.racks.a x.racks.length p.racks.c)) W rfl (by cases b2<;>cases b4<;>cases b5<;>cases b7<;>cases b8<;>decide) trivial ⟨fun _=>rfl,V2,V3,D,hD,hB,fun _=>rfl,h2.out,h4.out,h5.out,h7.out,h8.out⟩)
  ·refine wpOp_step (o:=_) rfl (fun K2 hK2=>?_)
   simp only [fillA,List.foldl_cons,List.foldl_nil,List.setIfInBounds_toArray,List.set_cons_zero,List.set_cons_succ]
   have e9:=Lh (h1.out rfl).symm
   rw [h1.out rfl]
   go_simp
   refine (cloneT_any x.racks p.racks.a p.racks.c W HAW.2.1 HS.out.2.1).mono ?_
   rintro e w' ⟨q,rfl,z,hd⟩
   have g1:b5=true→∃ r:Rwa,vs 12=.slice r.a x.scores.length r.c∧IZ w' wd.heap.size r.a r.c x.scores∧(upD D 1 [effA q.a x.racks]) 2=[effA r.a x.scores]:=fun h=>by
    obtain ⟨r,a1,a2,a3⟩:=h5.out h
    exact ⟨r,a1,a2.kept hd,a3⟩
   have g2:b8=true→∃ r:Rwa,vs 15=.slice r.a x.clocks.length r.c∧IZ w' wd.heap.size r.a r.c x.clocks∧(upD D 1 [effA q.a x.racks]) 3=[effA r.a x.clocks]:=fun h=>by
    obtain ⟨r,a1,a2,a3⟩:=h8.out h
    exact ⟨r,a1,a2.kept hd,a3⟩
   have hk:=hK.out (true,true,b4,b5,b7,b8) (upV vs 9 (.slice q.a x.racks.length q.c)) w' rfl (by cases b4<;>cases b5<;>cases b7<;>cases b8<;>decide) trivial
    ⟨fun _=>rfl,fun h=>⟨rfl,(V2 h).2⟩,V3,upD D 1 [effA q.a x.racks],hD.add 1 hB.size hd.size (new_one z.lt D 1),hB.trans (hd.mono hB.size),h1.out,fun _=>⟨q,rfl,z.mono hB.size,upD_same _ _ _⟩,h4.out,g1,h7.out,g2⟩
   go_wp2_with fail
   rw [e9.out]
   exact hk
  ·refine wpOp_step (o:=_) rfl (fun K2 hK2=>?_)
   simp only [fillA,List.foldl_cons,List.foldl_nil,List.setIfInBounds_toArray,List.set_cons_zero,List.set_cons_succ]
   have c9:=RW.cell (i:=15) (v:=.slice p.scores.a x.scores.length p.scores.c) (by rw [← hgc];rfl)
   go_simp
   exact hK2 _ _ (hK.out (b1,b2,true,b5,b7,b8) (upV vs 11 (.slice p.scores.a x.scores.length p.scores.c)) W rfl (by cases b1<;>cases b2<;>cases b5<;>cases b7<;>cases b8<;>decide) trivial ⟨V1,fun h=>⟨(V2 h).1,rfl⟩,V3,D,hD,hB,h1.out,h2.out,fun _=>rfl,h5.out,h7.out,h8.out⟩)
  ·refine wpOp_step (o:=_) rfl (fun K2 hK2=>?_)
   simp only [fillA,List.foldl_cons,List.foldl_nil,List.setIfInBounds_toArray,List.set_cons_zero,List.set_cons_succ]
   have e9:=Lh (h4.out rfl).symm
   rw [h4.out rfl]
   go_simp
   refine (cloneI_any x.scores p.scores.a p.scores.c W HAW.2.2.1 HS.out.2.2.1).mono ?_
   rintro e w' ⟨q,rfl,z,hd⟩
   have g0:true=true→∃ r:Rwa,vs 9=.slice r.a x.racks.length r.c∧TZ w' wd.heap.size r.a r.c x.racks∧(upD D 2 [effA q.a x.scores]) 1=[effA r.a x.racks]:=fun h=>by
    obtain ⟨r,a1,a2,a3⟩:=h2.out h
    exact ⟨r,a1,a2.kept hd,a3⟩
   have g2:b8=true→∃ r:Rwa,vs 15=.slice r.a x.clocks.length r.c∧IZ w' wd.heap.size r.a r.c x.clocks∧(upD D 2 [effA q.a x.scores]) 3=[effA r.a x.clocks]:=fun h=>by
    obtain ⟨r,a1,a2,a3⟩:=h8.out h
    exact ⟨r,a1,a2.kept hd,a3⟩
   have hk:=hK.out (b1,true,true,true,b7,b8) (upV vs 12 (.slice q.a x.scores.length q.c)) w' rfl (by cases b1<;>cases b7<;>cases b8<;>decide) trivial
    ⟨V1,fun _=>⟨rfl,rfl⟩,fun h=>⟨rfl,(V3 h).2⟩,upD D 2 [effA q.a x.scores],hD.add 2 hB.size hd.size (new_one z.lt D 2),hB.trans (hd.mono hB.size),h1.out,g0,h4.out,fun _=>⟨q,rfl,z.mono hB.size,upD_same _ _ _⟩,h7.out,g2⟩
   go_wp2_with fail
   rw [e9.out]
   exact hk
  ·refine wpOp_step (o:=_) rfl (fun K2 hK2=>?_)
   simp only [fillA,List.foldl_cons,List.foldl_nil,List.setIfInBounds_toArray,List.set_cons_zero,List.set_cons_succ]
   have c9:=RW.cell (i:=16) (v:=.slice p.clocks.a x.clocks.length p.clocks.c) (by rw [← hgc];rfl)
   go_simp
   exact hK2 _ _ (hK.out (b1,b2,b4,b5,true,b8) (upV vs 14 (.slice p.clocks.a x.clocks.length p.clocks.c)) W rfl (by cases b1<;>cases b2<;>cases b4<;>cases b5<;>cases b8<;>decide) trivial ⟨V1,V2,fun h=>⟨(V3 h).1,rfl⟩,D,hD,hB,h1.out,h2.out,h4.out,h5.out,fun _=>rfl,h8.out⟩)
  ·refine wpOp_step (o:=_) rfl (fun K2 hK2=>?_)
   simp only [fillA,List.foldl_cons,List.foldl_nil,List.setIfInBounds_toArray,List.set_cons_zero,List.set_cons_succ]
   have e9:=Lh (h7.out rfl).symm
   rw [h7.out rfl]
   go_simp
   refine (cloneI_any x.clocks p.clocks.a p.clocks.c W HAW.2.2.2 HS.out.2.2.2).mono ?_
   rintro e w' ⟨q,rfl,z,hd⟩
   have g0:b2=true→∃ r:Rwa,vs 9=.slice r.a x.racks.length r.c∧TZ w' wd.heap.size r.a r.c x.racks∧(upD D 3 [effA q.a x.clocks]) 1=[effA r.a x.racks]:=fun h=>by
    obtain ⟨r,a1,a2,a3⟩:=h2.out h
    exact ⟨r,a1,a2.kept hd,a3⟩
   have g1:true=true→∃ r:Rwa,vs 12=.slice r.a x.scores.length r.c∧IZ w' wd.heap.size r.a r.c x.scores∧(upD D 3 [effA q.a x.clocks]) 2=[effA r.a x.scores]:=fun h=>by
    obtain ⟨r,a1,a2,a3⟩:=h5.out h
    exact ⟨r,a1,a2.kept hd,a3⟩
   have hk:=hK.out (b1,b2,b4,true,true,true) (upV vs 15 (.slice q.a x.clocks.length q.c)) w' rfl (by cases b1<;>cases b2<;>cases b4<;>decide) trivial
    ⟨V1,V2,fun _=>⟨rfl,rfl⟩,upD D 3 [effA q.a x.clocks],hD.add 3 hB.size hd.size (new_one z.lt D 3),hB.trans (hd.mono hB.size),h1.out,g0,h4.out,g1,h7.out,fun _=>⟨q,rfl,z.mono hB.size,upD_same _ _ _⟩⟩
   go_wp2_with fail
   rw [e9.out]
   exact hk
 case hend =>
  rintro ⟨b1,b2,b4,b5,b7,b8⟩ vs W n hrs hn ⟨V1,V2,V3,D,hD,hB,h1,h2,h4,h5,h7,h8⟩ hHeld
  obtain ⟨rfl,rfl,rfl,rfl,rfl,rfl⟩:b1=true∧b2=true∧b4=true∧b5=true∧b7=true∧b8=true:=by revert hrs V1 V2 V3;cases b1<;>cases b2<;>cases b4<;>cases b5<;>cases b7<;>cases b8<;>simp
  obtain ⟨r1,e1,z1,d1⟩:=h2 rfl
  obtain ⟨r2,e2,z2,d2⟩:=h5 rfl
  obtain ⟨r3,e3,z3,d3⟩:=h8 rfl
  obtain ⟨n,rfl⟩:∃ k,n=k+6:=⟨n - 6,by have h9:6≤n:=hn;omega⟩
  simp only [fillA,List.foldl_cons,List.foldl_nil,List.setIfInBounds_toArray,List.set_cons_zero,List.set_cons_succ]
  rw [e1,e2,e3]
  have OF:Hid (x.Off ⟨r0,r1,r2,r3⟩):=Lh
   ⟨o0,fun t ht=>off_of_lt (fun k hk=>L0 t ht k hk) (fun k hk=>(z1.lt k hk).1),fun t ht=>off_of_lt (fun k hk=>L0 t ht k hk) (fun k hk=>(z2.lt k hk).1),fun t ht=>off_of_lt (fun k hk=>L0 t ht k hk) (fun k hk=>(z3.lt k hk).1),
    hD.1 1 2 (by decide) _ (by rw [d1];exact List.mem_singleton.2 rfl) _ (by rw [d2];exact List.mem_singleton.2 rfl),hD.1 1 3 (by decide) _ (by rw [d1];exact List.mem_singleton.2 rfl) _ (by rw [d3];exact List.mem_singleton.2 rfl),hD.1 2 3 (by decide) _ (by rw [d2];exact List.mem_singleton.2 rfl) _ (by rw [d3];exact List.mem_singleton.2 rfl)⟩
  have hzp:w.heap.size+1≤wd.heap.size:=VI.out.lt
  replace Z0:=Lh (Z0.out.kept hB)
  have Z1:=Lh (z1.mono hzp)
  have Z2:=Lh (z2.mono hzp)
  have Z3:=Lh (z3.mono hzp)
  replace VI:=Lh (VI.out.kept hB)
  replace hb:=hb.trans (hB.mono hb.size)
  clear h1 h2 h4 h5 h7 h8 hrs hn e1 e2 e3 d1 d2 d3 hD hB z1 z2 z3 hzp L0 HA V1 V2 V3
  refine slotA 9 16 (.pointer (some ⟨w.heap.size,14,none⟩)) ?_
  simp only [S3]
  refine wpAnyH_ready (rs:=[10]) (by kernel_rfl) (by simp) ?_
  refine AllReadyH.cons (o:=_) rfl (fun K hK=>?_) AllReadyH.nil
  have c9:=VI.out.cell (i:=14) (v:=.slice p.racks.a x.racks.length p.racks.c) (by rw [← hgc];rfl)
  have f9:=VI.out.free 14
  go_simp
  clear c9 f9
  obtain ⟨V7,k7⟩:=VI.out.set 14 (.slice r1.a x.racks.length r1.c)
  replace Z0:=Lh (Z0.out.store k7 (Nat.lt_succ_self _))
  replace Z1:=Lh (Z1.out.store k7 (Nat.lt_succ_self _))
  replace Z2:=Lh (Z2.out.store k7 (Nat.lt_succ_self _))
  replace Z3:=Lh (Z3.out.store k7 (Nat.lt_succ_self _))
  replace hb:=hb.grown k7 hb.size (fun k h=>by cases h;exact Nat.le_refl _)
  replace VI:=Lh (V7.as (cs':=gc ⟨r0,r1,p.scores,p.clocks⟩) (by rw [← hgc,← hgc];rfl))
  clear k7 V7
  generalize W.setCell ⟨w.heap.size,14,none⟩ (.slice r1.a x.racks.length r1.c)=w5 at *
  refine hK.out _ _ trivial (fun hHeld=>?_)
  clear hK K
  refine slotA 11 17 (.pointer (some ⟨w.heap.size,15,none⟩)) ?_
  simp only [S3]
  refine wpAnyH_ready (rs:=[12]) (by kernel_rfl) (by simp) ?_
  refine AllReadyH.cons (o:=_) rfl (fun K hK=>?_) AllReadyH.nil
  have c9:=VI.out.cell (i:=15) (v:=.slice p.scores.a x.scores.length p.scores.c) (by rw [← hgc];rfl)
  have f9:=VI.out.free 15
  go_simp
  clear c9 f9
  obtain ⟨V7,k7⟩:=VI.out.set 15 (.slice r2.a x.scores.length r2.c)
  replace Z0:=Lh (Z0.out.store k7 (Nat.lt_succ_self _))
  replace Z1:=Lh (Z1.out.store k7 (Nat.lt_succ_self _))
  replace Z2:=Lh (Z2.out.store k7 (Nat.lt_succ_self _))
  replace Z3:=Lh (Z3.out.store k7 (Nat.lt_succ_self _))
  replace hb:=hb.grown k7 hb.size (fun k h=>by cases h;exact Nat.le_refl _)
  replace VI:=Lh (V7.as (cs':=gc ⟨r0,r1,r2,p.clocks⟩) (by rw [← hgc,← hgc];rfl))
  clear k7 V7
  generalize w5.setCell ⟨w.heap.size,15,none⟩ (.slice r2.a x.scores.length r2.c)=w6 at *
  refine hK.out _ _ trivial (fun hHeld=>?_)
  clear hK K
  refine slotA 13 18 (.pointer (some ⟨w.heap.size,16,none⟩)) ?_
  simp only [S3]
  refine wpAnyH_ready (rs:=[14]) (by kernel_rfl) (by simp) ?_
  refine AllReadyH.cons (o:=_) rfl (fun K hK=>?_) AllReadyH.nil
  have c9:=VI.out.cell (i:=16) (v:=.slice p.clocks.a x.clocks.length p.clocks.c) (by rw [← hgc];rfl)
  have f9:=VI.out.free 16
  go_simp
  clear c9 f9
  obtain ⟨V7,k7⟩:=VI.out.set 16 (.slice r3.a x.clocks.length r3.c)
  replace Z0:=Lh (Z0.out.store k7 (Nat.lt_succ_self _))
  replace Z1:=Lh (Z1.out.store k7 (Nat.lt_succ_self _))
  replace Z2:=Lh (Z2.out.store k7 (Nat.lt_succ_self _))
  replace Z3:=Lh (Z3.out.store k7 (Nat.lt_succ_self _))
  replace hb:=hb.grown k7 hb.size (fun k h=>by cases h;exact Nat.le_refl _)
  replace VI:=Lh (V7.as (cs':=gc ⟨r0,r1,r2,r3⟩) (by rw [← hgc,← hgc];rfl))
  clear k7 V7
  generalize w6.setCell ⟨w.heap.size,16,none⟩ (.slice r3.a x.clocks.length r3.c)=w7 at *
  refine hK.out _ _ trivial (fun hHeld=>?_)
  clear hK K
  have hZ:x.Z ⟨r0,r1,r2,r3⟩ (w.heap.size+1) w7:=⟨Z0.out,Z1.out,Z2.out,Z3.out⟩
  have HG:Hid (GBox w7 w.heap.size w.heap.size x ⟨r0,r1,r2,r3⟩):=Lh ⟨VI.out.as (hgc _).symm,hZ.mono (Nat.le_succ _),OF.out,Nat.le_refl _,fun t ht k h1 h2=>by
   have h3:=(hZ.lt t ht k h2).1
   have h4:w.heap.size=k:=Option.some.inj h1
   omega⟩
  clear Z0 Z1 Z2 Z3 VI OF hZ
  refine wpAnyH_done (by kernel_rfl) ?_ _
  go_wp2
  go_ret
  exact ⟨_,rfl,HG.out,hb⟩
end Go.Proofs.YtkjhapbjdjcipaaGreatDoor
