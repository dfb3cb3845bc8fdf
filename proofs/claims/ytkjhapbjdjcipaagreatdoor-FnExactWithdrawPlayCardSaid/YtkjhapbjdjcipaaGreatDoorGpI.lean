/- Contracts: copies of games: the reference. Rows of 2^20 elements at most. · Contracts: copies of rows (slices.Clone), of tile sets, lexicons and setups: the program. Rows of 2^20 elements at most. -/
import Derived.Test.YtkjhapbjdjcipaaGreatDoorGpG
set_option maxRecDepth 100000
set_option maxHeartbeats 8000000
namespace Go.Proofs.YtkjhapbjdjcipaaGreatDoor
open Go.ChangeShapes Go.WideShapes Go.ChangeAt Go.RowKit Go.Sort

def lstCells (m:Lst):List Value:=[.int .i64 m.kind,.int .i64 m.player,.int .i64 m.play.row,.int .i64 m.play.col,.bool m.play.down,.string m.play.word,.string m.before,.string m.drawn,.int .i64 m.score,.int .i64 m.zeros]
theorem gcells_board {w:World} {g:Nat} {x:Gam} {q:GaA} (h:w.rangeAt g 0 (gcells x q)):w.rangeAt g 10 (Brd.enc x.board):=by
 intro j v hv
 unfold Brd.enc at hv
 match j,hv with
 | 0,hv=>cases hv;exact range_cell h 10 rfl
 | 1,hv=>cases hv;exact range_cell h 11 rfl
 | 2,hv=>cases hv;exact range_cell h 12 rfl
theorem gcells_last {w:World} {g:Nat} {x:Gam} {q:GaA} (h:w.rangeAt g 0 (gcells x q)):w.rangeAt g 19 (lstCells x.last):=by
 intro j v hv
 unfold lstCells at hv
 match j,hv with
 | 0,hv=>cases hv;exact range_cell h 19 rfl
 | 1,hv=>cases hv;exact range_cell h 20 rfl
 | 2,hv=>cases hv;exact range_cell h 21 rfl
 | 3,hv=>cases hv;exact range_cell h 22 rfl
 | 4,hv=>cases hv;exact range_cell h 23 rfl
 | 5,hv=>cases hv;exact range_cell h 24 rfl
 | 6,hv=>cases hv;exact range_cell h 25 rfl
 | 7,hv=>cases hv;exact range_cell h 26 rfl
 | 8,hv=>cases hv;exact range_cell h 27 rfl
 | 9,hv=>cases hv;exact range_cell h 28 rfl
theorem gcells_all1 (x:Gam) (q:GaA):∀ v∈gcells x q,v.oneCell'=true:=by
 intro v hv
 unfold gcells at hv
 simp only [List.mem_cons,List.not_mem_nil,or_false] at hv
 rcases hv with rfl | rfl | rfl | rfl | rfl | rfl | rfl | rfl | rfl | rfl | rfl | rfl | rfl | rfl | rfl | rfl | rfl | rfl | rfl | rfl | rfl | rfl | rfl | rfl | rfl | rfl | rfl | rfl | rfl | rfl<;>rfl
def gnone:List Value:=[.string ⟨#[]⟩,.slice none 0 0,.slice none 0 0,.int .i64 0,.slice none 0 0,.int .i64 0,.string ⟨#[]⟩,.string ⟨#[]⟩,.int .i64 0,.int .i64 0,.int .i64 0,.string ⟨#[]⟩,.string ⟨#[]⟩,.string ⟨#[]⟩,.slice none 0 0,.slice none 0 0,.slice none 0 0,.int .i64 0,.int .i64 0,.int .i64 0,.int .i64 0,.int .i64 0,.int .i64 0,.bool false,.string ⟨#[]⟩,.string ⟨#[]⟩,.string ⟨#[]⟩,.int .i64 0,.int .i64 0,.bool false]
/-- a game of the call's own -/
def GamPost (x:Gam) (w:World) (e:Ending) (w':World):Prop :=
 ∃ q:GaA,e=.returned (.agg (gcells x q).toArray)∧x.Z q w.heap.size w'∧x.Off q∧Below w.heap.size w w'
theorem new_one {w w':World} {a:Option Addr} (ha:∀ g,a.map (·.block)=some g→w.heap.size≤g∧g < w'.heap.size) (D:Nat→List (Option Addr)) (k:Nat) :
  ∀ c∈[a],∀ k2,c.map (·.block)=some k2→(w.heap.size≤k2∧k2 < w'.heap.size)∨∃ b∈D k,b.map (·.block)=some k2:=by
 intro c hc k2 hk
 rw [List.mem_singleton.1 hc] at hk
 exact .inl (ha k2 hk)
theorem l18Own_any (x:Gam) (p:GaA) (g:Nat) (w:World) (ht:GAt w g x p) (hs:x.small) :
  Calls Tryz.prog 31 #[.pointer (some ⟨g,0,none⟩)] w (GamPost x w):=by
 obtain ⟨i0,hi0,hi1,hi2,hi3⟩:=info_parts infoTx
 have hb:Below w.heap.size w (w.alloc (.cells gnone.toArray 48)):=(Below.refl _ _).alloc (Nat.le_refl _) _
 have VO:=Lh (VarAt.new w 48 gnone)
 have HT0:=Lh ht.cells
 have HT:=Lh (ht.kept hb)
 have HS:=Lh hs
 clear ht hs
 go_enter Tryz.func31,Tryz.ntmps31
 go_upto_region 1 with fail
 change Code.wp _ _ _ _ (w.alloc (.cells gnone.toArray 48))
 generalize w.alloc (.cells gnone.toArray 48)=w1 at *
 have hd:Below w1.heap.size w1 w1.drew:=(Below.refl _ _).drew
 replace hb:=hb.trans (hd.mono hb.size)
 replace HT:=Lh (HT.out.kept hd)
 replace VO:=Lh (VO.out.kept hd)
 clear hd
 refine wp_region_held_drew (S:=fun w'=>w'.rangeAt g 0 (gcells x p)) (by kernel_rfl) HT.out.cells (fun hHeld=>?_)
 generalize w1.drew=wd at *
 refine slotA 0 3 (.pointer (some ⟨g,0,none⟩)) ?_
 simp only [S3]
 refine slotA 1 4 (.pointer (some ⟨g,0,none⟩)) ?_
 simp only [S3]
 refine slotA 2 5 (.pointer (some ⟨g,0,none⟩)) ?_
 simp only [S3]
 refine slotA 4 7 (.pointer (some ⟨g,0,none⟩)) ?_
 simp only [S3]
 refine slotA 5 8 (.pointer (some ⟨g,0,none⟩)) ?_
 simp only [S3]
 refine slotA 6 9 (.pointer (some ⟨g,10,none⟩)) ?_
 simp only [S3]
 refine slotA 7 10 (.agg (Brd.enc x.board).toArray) ?_ (hy:=yieldsIf_load_mid (by rfl) 41 _ rfl g 10 rfl (Brd.enc x.board) _ (fun w' hS=>gcells_board (x:=x) (q:=p) hS) Tryz.underlying41 rfl (by kernel_rfl))
 simp only [S3]
 refine slotA 8 11 (.pointer (some ⟨g,0,none⟩)) ?_
 simp only [S3]
 refine slotA 9 12 (.pointer (some ⟨g,0,none⟩)) ?_
 simp only [S3]
 refine slotA 10 13 (.pointer (some ⟨g,13,none⟩)) ?_
 simp only [S3]
 refine slotA 11 14 (.string x.bag) ?_ (hy:=Or.inl ⟨by rfl,fun w' hS=>by have c9:=range_cell hS 13 (v:=.string x.bag) rfl;go_simp⟩)
 simp only [S3]
 refine slotA 13 16 (.pointer (some ⟨g,0,none⟩)) ?_
 simp only [S3]
 refine slotA 14 17 (.pointer (some ⟨g,0,none⟩)) ?_
 simp only [S3]
 refine slotA 15 18 (.pointer (some ⟨g,14,none⟩)) ?_
 simp only [S3]
 refine slotA 16 19 (.slice p.racks.a x.racks.length p.racks.c) ?_ (hy:=Or.inl ⟨by rfl,fun w' hS=>by have c9:=range_cell hS 14 (v:=.slice p.racks.a x.racks.length p.racks.c) rfl;go_simp⟩)
 simp only [S3]
 refine slotA 18 21 (.pointer (some ⟨g,0,none⟩)) ?_
 simp only [S3]
 refine slotA 19 22 (.pointer (some ⟨g,0,none⟩)) ?_
 simp only [S3]
 refine slotA 20 23 (.pointer (some ⟨g,15,none⟩)) ?_
 simp only [S3]
 refine slotA 21 24 (.slice p.scores.a x.scores.length p.scores.c) ?_ (hy:=Or.inl ⟨by rfl,fun w' hS=>by have c9:=range_cell hS 15 (v:=.slice p.scores.a x.scores.length p.scores.c) rfl;go_simp⟩)
 simp only [S3]
 refine slotA 23 26 (.pointer (some ⟨g,0,none⟩)) ?_
 simp only [S3]
 refine slotA 24 27 (.pointer (some ⟨g,0,none⟩)) ?_
 simp only [S3]
 refine slotA 25 28 (.pointer (some ⟨g,16,none⟩)) ?_
 simp only [S3]
 refine slotA 26 29 (.slice p.clocks.a x.clocks.length p.clocks.c) ?_ (hy:=Or.inl ⟨by rfl,fun w' hS=>by have c9:=range_cell hS 16 (v:=.slice p.clocks.a x.clocks.length p.clocks.c) rfl;go_simp⟩)
 simp only [S3]
 refine slotA 28 31 (.pointer (some ⟨g,0,none⟩)) ?_
 simp only [S3]
 refine slotA 29 32 (.pointer (some ⟨g,0,none⟩)) ?_
 simp only [S3]
 refine slotA 30 33 (.pointer (some ⟨g,17,none⟩)) ?_
 simp only [S3]
 refine slotA 31 34 (.int .i64 x.player) ?_ (hy:=Or.inl ⟨by rfl,fun w' hS=>by have c9:=range_cell hS 17 (v:=.int .i64 x.player) rfl;go_simp⟩)
 simp only [S3]
 refine slotA 32 35 (.pointer (some ⟨g,0,none⟩)) ?_
 simp only [S3]
 refine slotA 33 36 (.pointer (some ⟨g,0,none⟩)) ?_
 simp only [S3]
 refine slotA 34 37 (.pointer (some ⟨g,18,none⟩)) ?_
 simp only [S3]
 refine slotA 35 38 (.int .i64 x.zeros) ?_ (hy:=Or.inl ⟨by rfl,fun w' hS=>by have c9:=range_cell hS 18 (v:=.int .i64 x.zeros) rfl;go_simp⟩)
 simp only [S3]
 refine slotA 36 39 (.pointer (some ⟨g,0,none⟩)) ?_
 simp only [S3]
 refine slotA 37 40 (.pointer (some ⟨g,0,none⟩)) ?_
 simp only [S3]
 refine slotA 38 41 (.pointer (some ⟨g,19,none⟩)) ?_
 simp only [S3]
 refine slotA 39 42 (.agg (lstCells x.last).toArray) ?_ (hy:=yieldsIf_load_mid (by rfl) 46 _ rfl g 19 rfl (lstCells x.last) _ (fun w' hS=>gcells_last (x:=x) (q:=p) hS) Tryz.underlying46 rfl (by kernel_rfl))
 simp only [S3]
 refine slotA 40 43 (.pointer (some ⟨g,0,none⟩)) ?_
 simp only [S3]
 refine slotA 41 44 (.pointer (some ⟨g,0,none⟩)) ?_
 simp only [S3]
 refine slotA 42 45 (.pointer (some ⟨g,29,none⟩)) ?_
 simp only [S3]
 refine slotA 43 46 (.bool x.over) ?_ (hy:=Or.inl ⟨by rfl,fun w' hS=>by have c9:=range_cell hS 29 (v:=.bool x.over) rfl;go_simp⟩)
 simp only [S3]
 refine wpAnyH_apart (σ:=Bool × Bool) (L:=fun s=>#[true,true,true,s.1,true,true,true,true,true,true,true,true,s.2,true,true,true,true,false,true,true,true,true,false,true,true,true,true,false,true,true,true,true,true,true,true,true,true,true,true,true,true,true,true,true,false,false]) (RS:=fun s=>(if s.1 then [] else [3])++(if s.2 then [] else [12])) (m:=fun s=>cond s.1 0 1+cond s.2 0 1+5)
  (J:=fun s vs W=>∃ D,Apart wd.heap.size W D∧Below wd.heap.size wd W∧(s.1=true→∃ r:StA,vs 6=.agg (scells x.setup r).toArray∧x.setup.Z r wd.heap.size W∧x.setup.Off r∧D 0=x.setup.effs r)∧(s.2=true→∃ gg,vs 15=.slice (some ⟨gg,0,none⟩) 0 0∧W.ownsRow wd.heap.size 9 1 (.slice (some ⟨gg,0,none⟩) 0 0) 0 []∧D 1=[some ⟨gg,0,none⟩]))
  (ks:=[6,15]) (s0:=(false,false)) (v0:=fun _=>undef) (by kernel_rfl) (by kernel_rfl) (by decide) ?hJ hHeld ?hr ?hm ?hend ?hstep
 case hr=>rintro ⟨_ | _,_ | _⟩ vs W hJ h<;>first | exact absurd rfl h | kernel_rfl
 case hm=>rintro ⟨_ | _,_ | _⟩ h<;>first | exact absurd rfl h | decide
 case hJ=>exact ⟨fun _=>[],Apart.none _ _,Below.refl _ _,fun h=>absurd h (by decide),fun h=>absurd h (by decide)⟩
 case hstep =>
  rintro ⟨b1,b2⟩ vs W ⟨D,hD,hB,h1,h2⟩ hS i hi K hK
  have hi':(i=3∧b1=false)∨(i=12∧b2=false):=by
   cases b1<;>cases b2
   ·rcases List.mem_append.1 hi with h | h
    ·exact .inl ⟨List.mem_singleton.1 h,rfl⟩
    ·exact .inr ⟨List.mem_singleton.1 h,rfl⟩
   ·exact .inl ⟨List.mem_singleton.1 (show i∈[3] from hi),rfl⟩
   ·exact .inr ⟨List.mem_singleton.1 (show i∈[12] from hi),rfl⟩
   ·exact absurd hi List.not_mem_nil
  rcases hi' with ⟨rfl,rfl⟩ | ⟨rfl,rfl⟩
  ·refine wpOp_step (o:=_) rfl (fun K2 hK2=>?_)
   simp only [fillA,List.foldl_cons,List.foldl_nil,List.setIfInBounds_toArray,List.set_cons_zero,List.set_cons_succ]
   go_simp
   refine (l18OwnSetup_any x.setup p.setup g W (HT.out.kept hB).setup HS.out.1).mono ?_
   rintro e w' ⟨r,rfl,z1,of,hd⟩
   have h2':b2=true→∃ gg,vs 15=.slice (some ⟨gg,0,none⟩) 0 0∧w'.ownsRow wd.heap.size 9 1 (.slice (some ⟨gg,0,none⟩) 0 0) 0 []∧upD D 0 (x.setup.effs r) 1=[some ⟨gg,0,none⟩]:=fun h=>by
    obtain ⟨gg,a1,a2,a3⟩:=h2 h
    exact ⟨gg,a1,own_below a2 hd,a3⟩
   have hk:=hK.out (true,b2) (upV vs 6 (.agg (scells x.setup r).toArray)) w' rfl (by cases b2<;>decide) (range_kept hS hd)
    ⟨upD D 0 (x.setup.effs r),hD.add 0 hB.size hd.size (fun a ha g hg=>.inl (z1.lt a ha g hg)),hB.trans (hd.mono hB.size),fun _=>⟨r,rfl,z1.mono hB.size,of,upD_same _ _ _⟩,h2'⟩
   go_wp2_with fail
   exact hk
  ·refine wpOp_step (o:=_) rfl (fun K2 hK2=>?_)
   simp only [fillA,List.foldl_cons,List.foldl_nil,List.setIfInBounds_toArray,List.set_cons_zero,List.set_cons_succ]
   go_simp
   have hd:Below W.heap.size W (W.alloc (.cells #[] 9)):=(Below.refl _ _).alloc (Nat.le_refl _) _
   have h1':b1=true→∃ r:StA,vs 6=.agg (scells x.setup r).toArray∧x.setup.Z r wd.heap.size (W.alloc (.cells #[] 9))∧x.setup.Off r∧upD D 1 [some ⟨W.heap.size,0,none⟩] 0=x.setup.effs r:=fun h=>by
    obtain ⟨r,a1,a2,a4,a5⟩:=h1 h
    exact ⟨r,a1,a2.kept hd,a4,a5⟩
   have hk:=hK.out (b1,true) (upV vs 15 (.slice (some ⟨W.heap.size,0,none⟩) 0 0)) (W.alloc (.cells #[] 9)) rfl (by cases b1<;>decide) (range_kept hS hd)
    ⟨upD D 1 [some ⟨W.heap.size,0,none⟩],hD.add 1 hB.size hd.size (new_row D 1 _),hB.trans (hd.mono hB.size),h1',fun _=>⟨W.heap.size,rfl,own_mono (own_empty W 9) hB.size,upD_same _ _ _⟩⟩
   exact hK2 _ _ hk
 case hend =>
  rintro ⟨b1,b2⟩ vs W n hrs hn ⟨D,hD,hB,h1,h2⟩ hHeld
  obtain ⟨rfl,rfl⟩:b1=true∧b2=true:=by cases b1<;>cases b2<;>first | exact ⟨rfl,rfl⟩ | cases hrs
  obtain ⟨r1,e1,z1,o1,d1⟩:=h1 rfl
  obtain ⟨gg,e2,oo,d2⟩:=h2 rfl
  obtain ⟨n,rfl⟩:∃ k,n=k+5:=⟨n - 5,by have h9:5≤n:=hn;omega⟩
  simp only [fillA,List.foldl_cons,List.foldl_nil,List.setIfInBounds_toArray,List.set_cons_zero,List.set_cons_succ]
  rw [e1,e2]
  clear h1 h2 hrs hn
  refine wpAnyH_ready (rs:=[17]) (by kernel_rfl) (by simp) ?_
  refine AllReadyH.cons (o:=_) rfl (fun K hK=>?_) AllReadyH.nil
  refine step_copy Tx.enc_len tx_one rfl (.tmp 15) (.tmp 19) 25 rfl wd.heap.size 9 i0 _ 16 Tryz.underlying25 hi0 hi1 hi2 hi3 rfl (by decide) gg oo x.racks p.racks.a p.racks.c (HT.out.kept hB).at_.2.1 HS.out.2.1 hB.size rfl rfl ?_
  intro g2 cap2 w2 ho hgr hwh
  have hW:=Wrote.of_grown (a:=some ⟨gg,0,none⟩) (n:=0) (c:=0) hgr hB.size (fun k hk=>by cases hk;exact (oo.lt gg rfl).1)
  have hD2:=hD.add 1 (T:=[effA (some (⟨g2,0,none⟩:Addr)) x.racks]) hB.size hgr.size (new_copy D 1 d2 hwh (ho.lt g2 rfl).2)
  have hO:∀ t∈D 0,offA (some ⟨gg,0,none⟩) t:=fun t ht=>hD.1 1 0 (by decide) _ (by rw [d2];exact List.mem_singleton.2 rfl) t ht
  have hB2:=hB.grown hgr hB.size (fun k hk=>by cases hk;exact (oo.lt gg rfl).1)
  have Z1:=Lh (z1.wrote hW (fun s hs t ht=>by rw [List.mem_singleton.1 hs];exact hO t (by rw [d1];exact ht)))
  have Z2:Hid (TZ w2 wd.heap.size (some ⟨g2,0,none⟩) cap2 x.racks):=Lh (.inr ho)
  have hHeld2:=range_kept HT.out.cells hB2
  clear hW hO z1 d2 oo ho hgr hwh hD hHeld e1 e2 hB
  refine hK.out _ _ hHeld2 (fun hHeld=>?_)
  clear hK K hHeld2
  refine wpAnyH_ready (rs:=[22]) (by kernel_rfl) (by simp) ?_
  refine AllReadyH.cons (o:=_) rfl (fun K hK=>?_) AllReadyH.nil
  go_simp
  refine (l00Own_any x.scores p.scores.a p.scores.c w2 (HT.out.kept hB2).at_.2.2.1 HS.out.2.2.1).mono ?_
  rintro e w3 ⟨g3,cap3,rfl,ho,hd⟩
  have hD3:=hD2.add 2 (T:=[effA (some (⟨g3,0,none⟩:Addr)) x.scores]) hB2.size hd.size (new_one (IZ.lt (nums_iz ho (Nat.le_refl _))) _ 2)
  have Z3:=Lh (nums_iz ho hB2.size)
  replace Z1:=Lh (Z1.out.kept hd)
  replace Z2:=Lh (Z2.out.kept hd)
  have hB3:=hB2.trans (hd.mono hB2.size)
  have hHeld2:=range_kept HT.out.cells hB3
  clear ho hd hD2 hB2 hHeld
  go_wp2_with fail
  refine hK.out _ _ hHeld2 (fun hHeld=>?_)
  clear hK K hHeld2
  refine wpAnyH_ready (rs:=[27]) (by kernel_rfl) (by simp) ?_
  refine AllReadyH.cons (o:=_) rfl (fun K hK=>?_) AllReadyH.nil
  go_simp
  refine (l00Own_any x.clocks p.clocks.a p.clocks.c w3 (HT.out.kept hB3).at_.2.2.2 HS.out.2.2.2).mono ?_
  rintro e w4 ⟨g4,cap4,rfl,ho,hd⟩
  have hD4:=hD3.add 3 (T:=[effA (some (⟨g4,0,none⟩:Addr)) x.clocks]) hB3.size hd.size (new_one (IZ.lt (nums_iz ho (Nat.le_refl _))) _ 3)
  have Z4:=Lh (nums_iz ho hB3.size)
  replace Z1:=Lh (Z1.out.kept hd)
  replace Z2:=Lh (Z2.out.kept hd)
  replace Z3:=Lh (Z3.out.kept hd)
  have hB4:=hB3.trans (hd.mono hB3.size)
  have hHeld2:=range_kept HT.out.cells hB4
  have m0:∀ t∈x.setup.effs r1,t∈D 0:=fun t ht=>by rw [d1];exact ht
  have OF:Hid (x.Off ⟨r1,⟨some ⟨g2,0,none⟩,cap2⟩,⟨some ⟨g3,0,none⟩,cap3⟩,⟨some ⟨g4,0,none⟩,cap4⟩⟩):=Lh
   ⟨o1,fun t ht=>hD4.1 0 1 (by decide) t (m0 t ht) _ (List.mem_singleton.2 rfl),fun t ht=>hD4.1 0 2 (by decide) t (m0 t ht) _ (List.mem_singleton.2 rfl),fun t ht=>hD4.1 0 3 (by decide) t (m0 t ht) _ (List.mem_singleton.2 rfl),
    hD4.1 1 2 (by decide) _ (List.mem_singleton.2 rfl) _ (List.mem_singleton.2 rfl),hD4.1 1 3 (by decide) _ (List.mem_singleton.2 rfl) _ (List.mem_singleton.2 rfl),hD4.1 2 3 (by decide) _ (List.mem_singleton.2 rfl) _ (List.mem_singleton.2 rfl)⟩
  clear ho hd hD3 hD4 hB3 hHeld m0 d1 o1
  go_wp2_with fail
  refine hK.out _ _ hHeld2 (fun hHeld=>?_)
  clear hK K hHeld2
  have hz:=VO.out.lt
  simp only [scells,Brd.enc,lstCells]
  refine wpAnyH_ready (rs:=[44]) (by kernel_rfl) (by simp) ?_
  refine AllReadyH.cons (o:=_) rfl (fun K hK=>?_) AllReadyH.nil
  go_simp
  refine hK.out _ _ hHeld (fun _=>?_)
  clear hK K
  replace VO:=Lh (VO.out.kept hB4)
  replace hb:=hb.trans (hB4.mono hb.size)
  refine wpAnyH_ready (rs:=[45]) (by kernel_rfl) (by simp) ?_
  refine AllReadyH.cons (o:=_) rfl (fun K hK=>?_) AllReadyH.nil
  obtain ⟨o6,k6⟩:=VO.out.put (gcells x ⟨r1,⟨some ⟨g2,0,none⟩,cap2⟩,⟨some ⟨g3,0,none⟩,cap3⟩,⟨some ⟨g4,0,none⟩,cap4⟩⟩) rfl
  have HB6:=Lh (hb.grown k6 hb.size (fun q h=>by cases h;exact Nat.le_refl _))
  replace Z1:=Lh (Z1.out.store k6 hz)
  replace Z2:=Lh (Z2.out.store k6 hz)
  replace Z3:=Lh (Z3.out.store k6 hz)
  replace Z4:=Lh (Z4.out.store k6 hz)
  have HSA:=Lh (range_kept HT0.out HB6.out)
  have rZ:=o6.range
  have tR:=VO.out.there (n:=(gcells x ⟨r1,⟨some ⟨g2,0,none⟩,cap2⟩,⟨some ⟨g3,0,none⟩,cap3⟩,⟨some ⟨g4,0,none⟩,cap4⟩⟩).length) rfl
  clear o6 k6 hb VO
  rw [if_pos (by rfl)]
  refine wp_store_mid 48 _ _ rfl w.heap.size 0 (gcells x ⟨r1,⟨some ⟨g2,0,none⟩,cap2⟩,⟨some ⟨g3,0,none⟩,cap3⟩,⟨some ⟨g4,0,none⟩,cap4⟩⟩).toArray rfl rfl tR (size_game _ _) (all_oneCell_toArray (gcells_all1 _ _)) ?_
  change K _ (w4.setCells w.heap.size 0 (gcells x ⟨r1,⟨some ⟨g2,0,none⟩,cap2⟩,⟨some ⟨g3,0,none⟩,cap3⟩,⟨some ⟨g4,0,none⟩,cap4⟩⟩))
  generalize w4.setCells w.heap.size 0 (gcells x ⟨r1,⟨some ⟨g2,0,none⟩,cap2⟩,⟨some ⟨g3,0,none⟩,cap3⟩,⟨some ⟨g4,0,none⟩,cap4⟩⟩)=wZ at *
  refine hK.out _ _ HSA.out (fun _=>?_)
  clear hK K tR
  have HV:=Lh (run_loadVar_mid (P:=Tryz.prog) wZ (w.heap.size) 0 48 (gcells x ⟨r1,⟨some ⟨g2,0,none⟩,cap2⟩,⟨some ⟨g3,0,none⟩,cap3⟩,⟨some ⟨g4,0,none⟩,cap4⟩⟩) _ rZ Tryz.underlying48 rfl (size_game _ _))
  clear rZ
  refine wpAnyH_done (by kernel_rfl) ?_ _
  go_wp2
  refine bodyPost_ret (results_cell_var Tryz.results31 _ _ _ _ rfl HV.out) rfl ?_
  exact ⟨_,rfl,⟨Z1.out.mono (Nat.le_of_lt hz),Z2.out.mono (Nat.le_of_lt hz),Z3.out.mono (Nat.le_of_lt hz),Z4.out.mono (Nat.le_of_lt hz)⟩,OF.out,HB6.out⟩
end Go.Proofs.YtkjhapbjdjcipaaGreatDoor

namespace Go.Proofs.YtkjhapbjdjcipaaGreatDoor
open Go.ChangeShapes Go.WideShapes Go.ChangeAt Go.RowKit Go.Sort

theorem cloneI_any (xs:List Int) (a:Option Addr) (c:Nat) (w:World) (hs:SliceAt w 1 I64.enc a xs) (hl:xs.length≤1048576) :
  Calls Tryz.prog 101 #[.slice a xs.length c] w fun e w'=>∃ q:Rwa,e=.returned (.slice q.a xs.length q.c)∧IZ w' w.heap.size q.a q.c xs∧Below w.heap.size w w':=by
 have hq:∀ wx,(binOp .eql 22 (.slice a xs.length c) (.slice none 0 0)).run Tryz.prog wx=.ok (.bool a.isNone) wx:=fun wx=>Lib.run_eql_slice_nil (P:=Tryz.prog) wx 22 2 a xs.length c 0 0 Tryz.underlying22
 cases a with
 | none =>
  have hx:xs=[]:=by
   cases xs with
   | nil=>rfl
   | cons y ys=>obtain ⟨b,off,h,_⟩:=hs.open (show 0 < (y :: ys).length by simp);cases h
  subst hx
  have hq2:∀ wx,(binOp .eql 22 (.slice none 0 c) (.slice none 0 0)).run Tryz.prog wx=.ok (.bool true) wx:=hq
  clear hs hq
  go_enter Tryz.func101,Tryz.ntmps101
  go_wp2
  go_ret
  exact ⟨⟨none,0⟩,rfl,.inl rfl,Below.refl _ _⟩
 | some ad =>
  have hq2:∀ wx,(binOp .eql 22 (.slice (some ad) xs.length c) (.slice none 0 0)).run Tryz.prog wx=.ok (.bool false) wx:=hq
  have hx:Below w.heap.size w (w.alloc (.cells #[] 2)):=(Below.refl _ _).alloc (Nat.le_refl _) _
  obtain ⟨i0,hi0,hi1,hi2,hi3⟩:=info_parts infoI64
  have HS:=Lh (hs.kept hx)
  have HO:=Lh (own_empty w 2)
  clear hs hq
  go_enter Tryz.func101,Tryz.ntmps101
  go_wp2_with (at_builtin;go_must (refine wpList_copy I64.enc_len i64_one rfl (.tmp 5) (.tmp 6) 22 rfl w.heap.size 2 i0 _ 8 Tryz.underlying22 hi0 hi1 hi2 hi3 rfl (by decide) w.heap.size HO.out xs (some ad) c HS.out hl ?c1 rfl rfl ?_))
  case c1=>simp
  intro g2 cap w2 ho hgr _
  have hb:=below_grown hx (by simp) hgr (Nat.le_refl _)
  have HO2:=Lh ho
  clear ho hgr hx
  go_wp2
  go_ret
  exact ⟨⟨some ⟨g2,0,none⟩,cap⟩,rfl,.inr HO2.out,hb⟩
theorem cloneT_any (xs:List ByteArray) (a:Option Addr) (c:Nat) (w:World) (hs:SliceAt w 1 Tx.enc a xs) (hl:xs.length≤1048576) :
  Calls Tryz.prog 100 #[.slice a xs.length c] w fun e w'=>∃ q:Rwa,e=.returned (.slice q.a xs.length q.c)∧TZ w' w.heap.size q.a q.c xs∧Below w.heap.size w w':=by
 have hq:∀ wx,(binOp .eql 25 (.slice a xs.length c) (.slice none 0 0)).run Tryz.prog wx=.ok (.bool a.isNone) wx:=fun wx=>Lib.run_eql_slice_nil (P:=Tryz.prog) wx 25 9 a xs.length c 0 0 Tryz.underlying25
 cases a with
 | none =>
  have hx:xs=[]:=by
   cases xs with
   | nil=>rfl
   | cons y ys=>obtain ⟨b,off,h,_⟩:=hs.open (show 0 < (y :: ys).length by simp);cases h
  subst hx
  have hq2:∀ wx,(binOp .eql 25 (.slice none 0 c) (.slice none 0 0)).run Tryz.prog wx=.ok (.bool true) wx:=hq
  clear hs hq
  go_enter Tryz.func100,Tryz.ntmps100
  go_wp2
  go_ret
  exact ⟨⟨none,0⟩,rfl,.inl rfl,Below.refl _ _⟩
 | some ad =>
  have hq2:∀ wx,(binOp .eql 25 (.slice (some ad) xs.length c) (.slice none 0 0)).run Tryz.prog wx=.ok (.bool false) wx:=hq
  have hx:Below w.heap.size w (w.alloc (.cells #[] 9)):=(Below.refl _ _).alloc (Nat.le_refl _) _
  obtain ⟨i0,hi0,hi1,hi2,hi3⟩:=info_parts infoTx
  have HS:=Lh (hs.kept hx)
  have HO:=Lh (own_empty w 9)
  clear hs hq
  go_enter Tryz.func100,Tryz.ntmps100
  go_wp2_with (at_builtin;go_must (refine wpList_copy Tx.enc_len tx_one rfl (.tmp 5) (.tmp 6) 25 rfl w.heap.size 9 i0 _ 16 Tryz.underlying25 hi0 hi1 hi2 hi3 rfl (by decide) w.heap.size HO.out xs (some ad) c HS.out hl ?c1 rfl rfl ?_))
  case c1=>simp
  intro g2 cap w2 ho hgr _
  have hb:=below_grown hx (by simp) hgr (Nat.le_refl _)
  have HO2:=Lh ho
  clear ho hgr hx
  go_wp2
  go_ret
  exact ⟨⟨some ⟨g2,0,none⟩,cap⟩,rfl,.inr HO2.out,hb⟩
theorem copyLexicon_any (xs:List ByteArray) (a:Option Addr) (c:Nat) (w:World) (hs:SliceAt w 1 Tx.enc a xs) (hl:xs.length≤1048576) :
  Calls Tryz.prog 130 #[.agg #[.slice a xs.length c]] w fun e w'=>∃ q:Rwa,e=.returned (.agg #[.slice q.a xs.length q.c])∧TZ w' w.heap.size q.a q.c xs∧Below w.heap.size w w':=by
 have hb:Below w.heap.size w ((w.alloc (.cells #[.slice a xs.length c] 40)).alloc (.cells #[.slice none 0 0] 40)):=((Below.refl _ _).alloc (Nat.le_refl _) _).alloc (by simp) _
 have VI:=Lh (VarAt.kept (VarAt.new w 40 [.slice a xs.length c]) ((Below.refl _ _).alloc (Nat.le_refl _) (.cells #[.slice none 0 0] 40)))
 have VO:Hid (VarAt ((w.alloc (.cells #[.slice a xs.length c] 40)).alloc (.cells #[.slice none 0 0] 40)) (w.heap.size+1) 40 [.slice none 0 0]):=by
  have:=VarAt.new (w.alloc (.cells #[.slice a xs.length c] 40)) 40 [.slice none 0 0]
  rw [World.size_alloc] at this
  exact Lh this
 have HS:=Lh (hs.kept hb)
 clear hs
 go_enter Tryz.func130,Tryz.ntmps130
 go_upto_region 1 with fail
 generalize (w.alloc (.cells #[.slice a xs.length c] 40)).alloc (.cells #[.slice none 0 0] 40)=w1 at *
 have c0:=VI.out.cell (i:=0) rfl
 go_wp2_with fail
 refine (cloneT_any xs a c w1 HS.out hl).mono ?_
 rintro e w2 ⟨q,rfl,z,hd⟩
 have hz:=VO.out.lt
 have Z1:=Lh (z.mono (Nat.succ_le_of_lt hz))
 replace VO:=Lh (VO.out.kept hd)
 replace hb:=hb.trans (hd.mono hb.size)
 clear z hd VI c0
 have d0:=VO.out.cell (i:=0) rfl
 have f0:=VO.out.free 0
 obtain ⟨o1,k1⟩:=VO.out.set 0 (.slice q.a xs.length q.c)
 have e0:=o1.cell (i:=0) (v:=.slice q.a xs.length q.c) rfl
 have hb2:=hb.grown k1 hb.size (fun k h=>by cases h;omega)
 have Z2:=Lh (Z1.out.store k1 (Nat.lt_succ_self _))
 clear o1 k1 Z1 hb VO
 go_wp2
 refine bodyPost_ret (v:=.agg #[.slice q.a xs.length q.c]) (by simp [results,Tryz.results130,go_sem,e0]) rfl ?_
 exact ⟨q,rfl,Z2.out.mono (by omega),hb2⟩
theorem scells_tiles {w:World} {g:Nat} {x:Stp} {q:StA} (h:w.rangeAt g 0 (scells x q)):w.rangeAt g 0 (tlCells x.tiles q.tiles):=by
 intro j v hv
 unfold tlCells at hv
 match j,hv with
 | 0,hv=>cases hv;exact range_cell h 0 rfl
 | 1,hv=>cases hv;exact range_cell h 1 rfl
 | 2,hv=>cases hv;exact range_cell h 2 rfl
 | 3,hv=>cases hv;exact range_cell h 3 rfl
theorem scells_lex {w:World} {g:Nat} {x:Stp} {q:StA} (h:w.rangeAt g 0 (scells x q)):w.rangeAt g 4 [.slice q.lexicon.a x.lexicon.length q.lexicon.c]:=by
 intro j v hv
 match j,hv with
 | 0,hv=>cases hv;exact range_cell h 4 rfl
def tlZero:List Value:=[.string ⟨#[]⟩,.slice none 0 0,.slice none 0 0,.int .i64 0]
theorem copyTiles_any (x:Tls) (q:TlA) (w:World) (ha:x.At q w) (hs:x.small) :
  Calls Tryz.prog 129 #[.agg (tlCells x q).toArray] w (TlsPost x w):=by
 have hb:Below w.heap.size w ((w.alloc (.cells (tlCells x q).toArray 39)).alloc (.cells tlZero.toArray 39)):=((Below.refl _ _).alloc (Nat.le_refl _) _).alloc (by simp) _
 have VI:=Lh (VarAt.kept (VarAt.new w 39 (tlCells x q)) ((Below.refl _ _).alloc (Nat.le_refl _) (.cells tlZero.toArray 39)))
 have VO:Hid (VarAt ((w.alloc (.cells (tlCells x q).toArray 39)).alloc (.cells tlZero.toArray 39)) (w.heap.size+1) 39 tlZero):=by
  have:=VarAt.new (w.alloc (.cells (tlCells x q).toArray 39)) 39 tlZero
  rw [World.size_alloc] at this
  exact Lh this
 have HA:=Lh (Tls.At.kept ha hb)
 have HS:=Lh hs
 clear ha hs
 go_enter Tryz.func129,Tryz.ntmps129
 go_upto_region 1 with fail
 change Code.wp _ _ _ _ ((w.alloc (.cells (tlCells x q).toArray 39)).alloc (.cells tlZero.toArray 39))
 generalize (w.alloc (.cells (tlCells x q).toArray 39)).alloc (.cells tlZero.toArray 39)=w1 at *
 have hd:Below w1.heap.size w1 w1.drew:=(Below.refl _ _).drew
 replace HA:=Lh (Tls.At.kept HA.out hd)
 replace hb:=hb.trans (hd.mono hb.size)
 replace VI:=Lh (VI.out.kept hd)
 replace VO:=Lh (VO.out.kept hd)
 clear hd
 refine wp_region_held_drew (S:=fun w'=>w'.rangeAt w.heap.size 0 (tlCells x q)) (by kernel_rfl) VI.out.range (fun hHeld=>?_)
 generalize w1.drew=wd at *
 refine slotA 0 3 (.pointer (some ⟨w.heap.size,0,none⟩)) ?_
 simp only [S3]
 refine slotA 1 4 (.string x.letters) ?_ (hy:=Or.inl ⟨by rfl,fun w' hS=>by have c9:=range_cell hS 0 (v:=.string x.letters) rfl;go_simp⟩)
 simp only [S3]
 refine slotA 2 5 (.pointer (some ⟨w.heap.size,1,none⟩)) ?_
 simp only [S3]
 refine slotA 3 6 (.slice q.values.a x.values.length q.values.c) ?_ (hy:=Or.inl ⟨by rfl,fun w' hS=>by have c9:=range_cell hS 1 (v:=.slice q.values.a x.values.length q.values.c) rfl;go_simp⟩)
 simp only [S3]
 refine slotA 5 8 (.pointer (some ⟨w.heap.size,2,none⟩)) ?_
 simp only [S3]
 refine slotA 6 9 (.slice q.counts.a x.counts.length q.counts.c) ?_ (hy:=Or.inl ⟨by rfl,fun w' hS=>by have c9:=range_cell hS 2 (v:=.slice q.counts.a x.counts.length q.counts.c) rfl;go_simp⟩)
 simp only [S3]
 refine slotA 8 11 (.pointer (some ⟨w.heap.size,3,none⟩)) ?_
 simp only [S3]
 refine slotA 9 12 (.int .i64 x.blanks) ?_ (hy:=Or.inl ⟨by rfl,fun w' hS=>by have c9:=range_cell hS 3 (v:=.int .i64 x.blanks) rfl;go_simp⟩)
 simp only [S3]
 refine wpAnyH_ready (rs:=[4]) (by kernel_rfl) (by simp) ?_
 refine AllReadyH.cons (o:=_) rfl (fun K hK=>?_) AllReadyH.nil
 go_simp
 refine (cloneI_any x.values q.values.a q.values.c wd HA.out.1 HS.out.1).mono ?_
 rintro e w2 ⟨q1,rfl,z,hd⟩
 have Z1:=Lh (z.mono (show w.heap.size+2≤wd.heap.size from VO.out.lt))
 have L1:∀ k,(effA q1.a x.values).map (·.block)=some k→k < w2.heap.size:=fun k hk=>(z.lt k hk).2
 replace hHeld:=range_kept hHeld hd
 replace HA:=Lh (Tls.At.kept HA.out hd)
 replace hb:=hb.trans (hd.mono hb.size)
 replace VI:=Lh (VI.out.kept hd)
 replace VO:=Lh (VO.out.kept hd)
 clear hd
 clear z
 go_wp2_with fail
 refine hK.out _ _ hHeld (fun _=>?_)
 clear hK K
 refine wpAnyH_ready (rs:=[7]) (by kernel_rfl) (by simp) ?_
 refine AllReadyH.cons (o:=_) rfl (fun K hK=>?_) AllReadyH.nil
 go_simp
 refine (cloneI_any x.counts q.counts.a q.counts.c w2 HA.out.2 HS.out.2).mono ?_
 rintro e w3 ⟨q2,rfl,z,hd⟩
 have Z2:=Lh (z.mono (show w.heap.size+2≤w2.heap.size from VO.out.lt))
 have OF:=Lh (off_of_lt L1 (fun k hk=>(z.lt k hk).1))
 replace Z1:=Lh (Z1.out.kept hd)
 replace hHeld:=range_kept hHeld hd
 replace hb:=hb.trans (hd.mono hb.size)
 replace VI:=Lh (VI.out.kept hd)
 replace VO:=Lh (VO.out.kept hd)
 clear hd
 clear z L1 HA
 go_wp2_with fail
 refine hK.out _ _ hHeld (fun _=>?_)
 clear hK K
 refine wpAnyH_ready (rs:=[10]) (by kernel_rfl) (by simp) ?_
 refine AllReadyH.cons (o:=_) rfl (fun K hK=>?_) AllReadyH.nil
 go_simp
 refine hK.out _ _ hHeld (fun _=>?_)
 clear hK K
 have RI:=VI.out
 refine wpAnyH_ready (rs:=[11]) (by kernel_rfl) (by simp) ?_
 refine AllReadyH.cons (o:=_) rfl (fun K hK=>?_) AllReadyH.nil
 obtain ⟨o6,k6⟩:=VO.out.put (tlCells x ⟨q1,q2⟩) rfl
 have HB6:=Lh (hb.grown k6 hb.size (fun q h=>by cases h;omega))
 replace Z1:=Lh (Z1.out.store k6 (Nat.lt_succ_self _))
 replace Z2:=Lh (Z2.out.store k6 (Nat.lt_succ_self _))
 have HSA:=Lh ((RI.grown k6 (by intro e;have:=Option.some.inj e;omega)).range)
 have rZ:=o6.range
 have tR:=VO.out.there (n:=(tlCells x ⟨q1,q2⟩).length) rfl
 clear o6 k6 hb VO
 rw [if_pos (by rfl)]
 refine wp_store_mid 39 _ _ rfl (w.heap.size+1) 0 (tlCells x ⟨q1,q2⟩).toArray rfl rfl tR (by kernel_rfl) (all_oneCell_toArray (tlCells_one _ _)) ?_
 change K _ (w3.setCells (w.heap.size+1) 0 (tlCells x ⟨q1,q2⟩))
 generalize w3.setCells (w.heap.size+1) 0 (tlCells x ⟨q1,q2⟩)=wZ at *
 refine hK.out _ _ HSA.out (fun _=>?_)
 clear hK K tR
 have HV:=Lh (run_loadVar_mid (P:=Tryz.prog) wZ ((w.heap.size+1)) 0 39 (tlCells x ⟨q1,q2⟩) _ rZ Tryz.underlying39 rfl (by kernel_rfl))
 clear rZ
 refine wpAnyH_done (by kernel_rfl) ?_ _
 go_wp2
 refine bodyPost_ret (results_cell_var Tryz.results129 _ _ _ _ rfl HV.out) rfl ?_
 exact ⟨⟨q1,q2⟩,rfl,Z1.out.mono (by omega),Z2.out.mono (by omega),OF.out,HB6.out⟩
theorem copySetup_any (x:Stp) (q:StA) (w:World) (ha:x.At q w) (hs:x.small) :
  Calls Tryz.prog 99 #[.agg (scells x q).toArray] w (StpPost x w):=by
 have hb:Below w.heap.size w ((w.alloc (.cells (scells x q).toArray 43)).alloc (.cells szero.toArray 43)):=((Below.refl _ _).alloc (Nat.le_refl _) _).alloc (by simp) _
 have VI:=Lh (VarAt.kept (VarAt.new w 43 (scells x q)) ((Below.refl _ _).alloc (Nat.le_refl _) (.cells szero.toArray 43)))
 have VO:Hid (VarAt ((w.alloc (.cells (scells x q).toArray 43)).alloc (.cells szero.toArray 43)) (w.heap.size+1) 43 szero):=by
  have:=VarAt.new (w.alloc (.cells (scells x q).toArray 43)) 43 szero
  rw [World.size_alloc] at this
  exact Lh this
 have HA:=Lh (Stp.At.kept ha hb)
 have HS:=Lh hs
 clear ha hs
 go_enter Tryz.func99,Tryz.ntmps99
 go_upto_region 1 with fail
 change Code.wp _ _ _ _ ((w.alloc (.cells (scells x q).toArray 43)).alloc (.cells szero.toArray 43))
 generalize (w.alloc (.cells (scells x q).toArray 43)).alloc (.cells szero.toArray 43)=w1 at *
 have hd:Below w1.heap.size w1 w1.drew:=(Below.refl _ _).drew
 replace HA:=Lh (Stp.At.kept HA.out hd)
 replace hb:=hb.trans (hd.mono hb.size)
 replace VI:=Lh (VI.out.kept hd)
 replace VO:=Lh (VO.out.kept hd)
 clear hd
 refine wp_region_held_drew (S:=fun _=>True) (by kernel_rfl) trivial (fun hHeld=>?_)
 generalize w1.drew=wd at *
 refine slotA 0 3 (.pointer (some ⟨w.heap.size,0,none⟩)) ?_
 simp only [S3]
 refine slotA 3 6 (.pointer (some ⟨w.heap.size,4,none⟩)) ?_
 simp only [S3]
 refine wpAnyH_apart (σ:=Bool × Bool × Bool) (L:=fun s=>#[true,s.1,s.2.1,true,s.2.2,false,false,false,false,false]) (RS:=fun s=>(if s.1 then [] else [1])++(if s.1 then (if s.2.1 then [] else [2]) else [])++(if s.2.2 then [] else [4])) (m:=fun s=>cond s.1 0 1+cond s.2.1 0 1+cond s.2.2 0 1+5)
  (J:=fun s vs W=>(s.2.1=true→s.1=true)∧Below wd.heap.size wd W∧(s.1=true→vs 4=.agg (tlCells x.tiles q.tiles).toArray)∧(s.2.1=true→∃ r:TlA,vs 5=.agg (tlCells x.tiles r).toArray∧IZ W wd.heap.size r.values.a r.values.c x.tiles.values∧IZ W wd.heap.size r.counts.a r.counts.c x.tiles.counts∧offA (effA r.values.a x.tiles.values) (effA r.counts.a x.tiles.counts))∧(s.2.2=true→vs 7=.agg #[.slice q.lexicon.a x.lexicon.length q.lexicon.c]))
  (ks:=[4,5,7]) (s0:=(false,false,false)) (v0:=fun _=>undef) (by kernel_rfl) (by kernel_rfl) (by decide) ?hJ hHeld ?hr ?hm ?hend ?hstep
 case hr=>rintro ⟨_ | _,_ | _,_ | _⟩ vs W hJ h<;>first | exact absurd rfl h | exact absurd (hJ.1 rfl) (by decide) | kernel_rfl
 case hm=>rintro ⟨_ | _,_ | _,_ | _⟩ h<;>first | exact absurd rfl h | decide
 case hJ=>exact ⟨fun h=>h,Below.refl _ _,fun h=>absurd h (by decide),fun h=>absurd h (by decide),fun h=>absurd h (by decide)⟩
 case hstep =>
  rintro ⟨b1,b2,b4⟩ vs W ⟨hV,hB,h1,h2,h4⟩ hS i hi K hK
  have hi':(i=1∧b1=false)∨(i=2∧b1=true∧b2=false)∨(i=4∧b4=false):=by revert hi;cases b1<;>cases b2<;>cases b4<;>simp
  have RW:=VI.out.kept hB
  rcases hi' with ⟨rfl,rfl⟩ | ⟨rfl,rfl,rfl⟩ | ⟨rfl,rfl⟩
  ·refine wpOp_step (o:=_) rfl (fun K2 hK2=>?_)
   simp only [fillA,List.foldl_cons,List.foldl_nil,List.setIfInBounds_toArray,List.set_cons_zero,List.set_cons_succ]
   rw [if_pos (by rfl)]
   refine wp_load_mid 39 _ rfl w.heap.size 0 rfl (tlCells x.tiles q.tiles) _ (scells_tiles RW.range) Tryz.underlying39 rfl (by kernel_rfl) ?_
   exact hK2 _ _ (hK.out (true,b2,b4) (upV vs 4 (.agg (tlCells x.tiles q.tiles).toArray)) W rfl (by cases b2<;>cases b4<;>decide) trivial ⟨fun _=>rfl,hB,fun _=>rfl,h2,h4⟩)
  ·refine wpOp_step (o:=_) rfl (fun K2 hK2=>?_)
   simp only [fillA,List.foldl_cons,List.foldl_nil,List.setIfInBounds_toArray,List.set_cons_zero,List.set_cons_succ]
   have e9:=Lh (h1 rfl).symm
   rw [h1 rfl]
   go_simp
   refine (copyTiles_any x.tiles q.tiles W (Stp.At.kept HA.out hB).1 HS.out.1).mono ?_
   rintro e w' ⟨r,rfl,z1,z2,of,hd⟩
   have hk:=hK.out (true,true,b4) (upV vs 5 (.agg (tlCells x.tiles r).toArray)) w' rfl (by cases b4<;>decide) trivial ⟨fun _=>rfl,hB.trans (hd.mono hB.size),fun _=>h1 rfl,fun _=>⟨r,rfl,z1.mono hB.size,z2.mono hB.size,of⟩,h4⟩
   go_wp2_with fail
   rw [e9.out]
   exact hk
  ·refine wpOp_step (o:=_) rfl (fun K2 hK2=>?_)
   simp only [fillA,List.foldl_cons,List.foldl_nil,List.setIfInBounds_toArray,List.set_cons_zero,List.set_cons_succ]
   rw [if_pos (by rfl)]
   refine wp_load_mid 40 _ rfl w.heap.size 4 rfl [.slice q.lexicon.a x.lexicon.length q.lexicon.c] _ (scells_lex RW.range) Tryz.underlying40 rfl (by kernel_rfl) ?_
   exact hK2 _ _ (hK.out (b1,b2,true) (upV vs 7 (.agg #[.slice q.lexicon.a x.lexicon.length q.lexicon.c])) W rfl (by cases b1<;>cases b2<;>decide) trivial ⟨hV,hB,h1,h2,fun _=>rfl⟩)
 case hend =>
  rintro ⟨b1,b2,b4⟩ vs W n hrs hn ⟨_,hB,h1,h2,h4⟩ hHeld
  obtain ⟨rfl,rfl,rfl⟩:b1=true∧b2=true∧b4=true:=by revert hrs;cases b1<;>cases b2<;>cases b4<;>simp
  obtain ⟨r1,e2,z1,z2,o12⟩:=h2 rfl
  have e1:=h1 rfl
  have e4:=h4 rfl
  obtain ⟨n,rfl⟩:∃ k,n=k+5:=⟨n - 5,by have h9:5≤n:=hn;omega⟩
  simp only [fillA,List.foldl_cons,List.foldl_nil,List.setIfInBounds_toArray,List.set_cons_zero,List.set_cons_succ]
  rw [e1,e2,e4]
  clear h1 h2 h4 hrs hn e1 e2 e4
  refine slotA 6 9 (.pointer (some ⟨w.heap.size,0,none⟩)) ?_
  simp only [S3]
  refine wpAnyH_ready (rs:=[5]) (by kernel_rfl) (by simp) ?_
  refine AllReadyH.cons (o:=_) rfl (fun K hK=>?_) AllReadyH.nil
  go_simp
  refine (copyLexicon_any x.lexicon q.lexicon.a q.lexicon.c W (Stp.At.kept HA.out hB).2 HS.out.2).mono ?_
  rintro e w3 ⟨r3,rfl,z3,hd⟩
  have hz:=VO.out.lt
  have hzB:=hB.size
  have OF:Hid (x.Off ⟨r1,r3⟩):=Lh ⟨o12,off_of_lt (fun k hk=>(z1.lt k hk).2) (fun k hk=>(z3.lt k hk).1),off_of_lt (fun k hk=>(z2.lt k hk).2) (fun k hk=>(z3.lt k hk).1)⟩
  have Z1:=Lh ((z1.kept hd).mono hz)
  have Z2:=Lh ((z2.kept hd).mono hz)
  have Z3:=Lh (z3.mono (Nat.le_trans hz hzB))
  have hB2:=hB.trans (hd.mono hzB)
  replace VI:=Lh (VI.out.kept hB2)
  replace VO:=Lh (VO.out.kept hB2)
  replace hb:=hb.trans (hB2.mono hb.size)
  clear z1 z2 z3 o12 hd hB hB2 HA hz hzB
  go_wp2_with fail
  refine hK.out _ _ trivial (fun hHeld=>?_)
  clear hK K
  refine wpAnyH_ready (rs:=[7]) (by kernel_rfl) (by simp) ?_
  refine AllReadyH.cons (o:=_) rfl (fun K hK=>?_) AllReadyH.nil
  rw [if_pos (by rfl)]
  refine wp_store_mid 39 _ _ rfl w.heap.size 0 (tlCells x.tiles r1).toArray rfl rfl (fun j hj=>VI.out.there (n:=10) rfl j (Nat.lt_of_lt_of_le hj (by show 4≤10;decide))) (by kernel_rfl) (all_oneCell_toArray (tlCells_one _ _)) ?_
  have k7:=set_cells w.heap.size 43 (tlCells x.tiles r1) 0 _ _ VI.out
  have V7:=(VarAt.setMany (tlCells x.tiles r1) 0 VI.out).as (cs':=scells x ⟨r1,q.lexicon⟩) rfl
  replace Z1:=Lh (Z1.out.store k7 (by omega))
  replace Z2:=Lh (Z2.out.store k7 (by omega))
  replace Z3:=Lh (Z3.out.store k7 (by omega))
  replace VO:=Lh (VO.out.grown k7 (by intro e;have:=Option.some.inj e;omega))
  replace hb:=hb.grown k7 hb.size (fun k h=>by cases h;exact Nat.le_refl _)
  replace VI:=Lh V7
  clear k7 V7
  change K _ (w3.setCells w.heap.size 0 (tlCells x.tiles r1))
  generalize w3.setCells w.heap.size 0 (tlCells x.tiles r1)=w4 at *
  refine hK.out _ _ trivial (fun hHeld=>?_)
  clear hK K
  refine slotA 8 10 (.pointer (some ⟨w.heap.size,4,none⟩)) ?_
  simp only [S3]
  refine wpAnyH_ready (rs:=[9]) (by kernel_rfl) (by simp) ?_
  refine AllReadyH.cons (o:=_) rfl (fun K hK=>?_) AllReadyH.nil
  rw [if_pos (by rfl)]
  refine wp_store_mid 40 _ _ rfl w.heap.size 4 #[.slice r3.a x.lexicon.length r3.c] rfl rfl (fun j hj=>by have hj2:j=0:=Nat.lt_one_iff.1 hj;subst hj2;exact VI.out.there (n:=10) rfl 4 (by decide)) (by kernel_rfl) (all_oneCell_toArray (cs:=[.slice r3.a x.lexicon.length r3.c]) (fun v hv=>by rw [List.mem_singleton.1 hv];rfl)) ?_
  have k7:=set_cells w.heap.size 43 [.slice r3.a x.lexicon.length r3.c] 4 _ _ VI.out
  have V7:=(VarAt.setMany [.slice r3.a x.lexicon.length r3.c] 4 VI.out).as (cs':=scells x ⟨r1,r3⟩) rfl
  replace Z1:=Lh (Z1.out.store k7 (by omega))
  replace Z2:=Lh (Z2.out.store k7 (by omega))
  replace Z3:=Lh (Z3.out.store k7 (by omega))
  replace VO:=Lh (VO.out.grown k7 (by intro e;have:=Option.some.inj e;omega))
  replace hb:=hb.grown k7 hb.size (fun k h=>by cases h;exact Nat.le_refl _)
  replace VI:=Lh V7
  clear k7 V7
  change K _ (w4.setCells w.heap.size 4 [.slice r3.a x.lexicon.length r3.c])
  generalize w4.setCells w.heap.size 4 [.slice r3.a x.lexicon.length r3.c]=w5 at *
  refine hK.out _ _ trivial (fun hHeld=>?_)
  clear hK K
  refine wpAnyH_done (by kernel_rfl) ?_ _
  go_upto_region 2 with fail
  have rI:=VI.out.range
  have tR:=VO.out.there (n:=(scells x ⟨r1,r3⟩).length) rfl
  obtain ⟨o6,k6⟩:=VO.out.put (scells x ⟨r1,r3⟩) rfl
  have HB6:=Lh (hb.grown k6 hb.size (fun q h=>by cases h;omega))
  replace Z1:=Lh (Z1.out.store k6 (by omega))
  replace Z2:=Lh (Z2.out.store k6 (by omega))
  replace Z3:=Lh (Z3.out.store k6 (by omega))
  have rZ:=o6.range
  clear o6 k6 hb VI VO
  refine wp_region_list ?_
  refine wpList_load_mid rfl 43 _ rfl w.heap.size 0 rfl (scells x ⟨r1,r3⟩) _ rI Tryz.underlying43 rfl (size_setup _ _) ?_
  refine wpList_store_mid rfl 43 _ _ rfl (w.heap.size+1) 0 (scells x ⟨r1,r3⟩).toArray rfl rfl tR (size_setup _ _) (all_oneCell_toArray (scells_one _ _)) ?_
  clear rI tR
  change wpList _ _ _ _ _ (w5.setCells (w.heap.size+1) 0 (scells x ⟨r1,r3⟩))
  generalize w5.setCells (w.heap.size+1) 0 (scells x ⟨r1,r3⟩)=wZ at *
  have HV:=Lh (run_loadVar_mid (P:=Tryz.prog) wZ (w.heap.size+1) 0 43 (scells x ⟨r1,r3⟩) _ rZ Tryz.underlying43 rfl (size_setup _ _))
  clear rZ
  go_wp2
  refine bodyPost_ret (results_cell_var Tryz.results99 _ _ _ _ rfl HV.out) rfl ?_
  exact ⟨⟨r1,r3⟩,rfl,⟨Z1.out.mono (by omega),Z2.out.mono (by omega),Z3.out.mono (by omega)⟩,OF.out,HB6.out⟩
end Go.Proofs.YtkjhapbjdjcipaaGreatDoor
