/- Contracts: the statements' own functions of a desk (a game in one field): szDesk, toDesk, eqDesk. The rows lie there (x.At), x.fit, x.small. -/
import Derived.Test.YtalnbgcdhcnjfaaGreatDoorGmN
set_option maxRecDepth 100000
set_option maxHeartbeats 8000000
namespace Go.Proofs.YtalnbgcdhcnjfaaGreatDoor
open Go.ChangeShapes Go.WideShapes Go.ChangeAt Go.RowKit Go.Sort

theorem size_lgame (x:Gam) (p:GaA):(Tryz.prog.info? 37).map (·.size)=some (gcells x p).length:=by kernel_rfl
theorem size_ldesk (x:Gam) (p:GaA):(Tryz.prog.info? 39).map (·.size)=some (gcells x p).length:=by kernel_rfl
theorem size_desk (x:Gam) (p:GaA):(Tryz.prog.info? 53).map (·.size)=some (gcells x p).length:=by kernel_rfl
theorem gcells_one (x:Gam) (p:GaA):∀ v∈gcells x p,v.oneCell'=true:=by
 intro v hv
 simp only [gcells,List.mem_cons,List.not_mem_nil,or_false] at hv
 rcases hv with rfl | rfl | rfl | rfl | rfl | rfl | rfl | rfl | rfl | rfl | rfl | rfl | rfl | rfl | rfl | rfl | rfl | rfl | rfl | rfl | rfl | rfl | rfl | rfl | rfl | rfl | rfl | rfl | rfl | rfl<;>rfl
/-- the cells of a game that nobody has filled -/
def gzero:List Value:=szero++[.int .i64 0,.string ⟨#[]⟩,.string ⟨#[]⟩,.string ⟨#[]⟩,.slice none 0 0,.slice none 0 0,.slice none 0 0,.int .i64 0,.int .i64 0,.int .i64 0,.int .i64 0,.int .i64 0,.int .i64 0,.bool false,.string ⟨#[]⟩,.string ⟨#[]⟩,.string ⟨#[]⟩,.int .i64 0,.int .i64 0,.bool false]
theorem szDesk_any (x:Gam) (p:GaA) (left:Int) (w:World) (ha:x.At p w) (h0:0≤left) (h1:left≤1048576) (hf:x.fit) :
  Calls Tryz.prog 5 #[.agg (gcells x p).toArray,.int .i64 left] w (SzPost w left x.sz):=by
 have hb:Below w.heap.size w (w.alloc (.cells (gcells x p).toArray 39)):=(Below.refl _ _).alloc (Nat.le_refl _) _
 have V:=Lh (VarAt.new w 39 (gcells x p))
 have HS:=Lh (szGame_any x p left _ (Gam.At.kept ha hb) h0 h1 hf)
 have HSZ:=Lh (size_lgame x p)
 clear ha hf
 unfold SzPost at *
 change Hid (Calls Tryz.prog 12 #[.agg (gcells x p).toArray,.int .i64 left] _ _) at HS
 generalize gcells x p=gc at *
 go_enter Tryz.func5,Tryz.ntmps5
 go_upto_region 1 with fail
 generalize w.alloc (.cells gc.toArray 39)=w1 at *
 have RG:=V.out.range
 go_wp2_with (refine wpList_load_mid rfl 37 _ rfl w.heap.size 0 rfl gc _ RG Tryz.underlying37 rfl HSZ.out ?_)
 clear RG
 refine HS.out.mono ?_
 rintro e w2 ⟨l1,rfl,z1,hd⟩
 replace hb:=hb.trans (hd.mono hb.size)
 clear hd V HS HSZ
 rcases z1 with rfl | ⟨y1,z1⟩
 ·go_wp2
  go_ret
  exact ⟨_,rfl,.inl rfl,hb⟩
 have n1:¬ l1 < 0:=by omega
 go_wp2
 go_ret
 exact ⟨_,rfl,.inr ⟨y1,z1⟩,hb⟩
theorem eqDesk_any (x:Gam) (p q:GaA) (w:World) (ha:x.At p w) (hc:x.At q w) (hf:x.fit) :
  Calls Tryz.prog 9 #[.agg (gcells x p).toArray,.agg (gcells x q).toArray] w fun e w'=>e=.returned (.bool true)∧Below w.heap.size w w':=by
 obtain ⟨w2,hw2⟩:∃ w2,w2=(w.alloc (.cells (gcells x p).toArray 53)).alloc (.cells (gcells x q).toArray 53):=⟨_,rfl⟩
 have hb:Below w.heap.size w w2:=by rw [hw2];exact ((Below.refl _ _).alloc (Nat.le_refl _) _).alloc (by simp) _
 have VA:Hid (VarAt w2 w.heap.size 53 (gcells x p)):=by
  rw [hw2]
  exact Lh ((VarAt.new w 53 (gcells x p)).kept ((Below.refl _ _).alloc (Nat.le_refl _) _))
 have VB:Hid (VarAt w2 (w.heap.size+1) 53 (gcells x q)):=by
  rw [hw2]
  have:=VarAt.new (w.alloc (.cells (gcells x p).toArray 53)) 53 (gcells x q)
  simp only [World.size_alloc] at this
  exact Lh this
 have HQ:=Lh (eqGame_any x p q w2 (Gam.At.kept ha hb) (Gam.At.kept hc hb) hf)
 change Hid (Calls Tryz.prog 16 #[.agg (gcells x p).toArray,.agg (gcells x q).toArray] _ _) at HQ
 have HW2:=Lh hw2
 have HSZ:Hid (∀ q,(Tryz.prog.info? 51).map (·.size)=some (gcells x q).length):=Lh (size_game x)
 clear hw2 ha hc hf
 generalize gcells x=gc at *
 go_enter Tryz.func9,Tryz.ntmps9
 go_upto_region 1 with fail
 rw [← HW2.out]
 clear HW2
 have RA:=VA.out.range
 have RB:=VB.out.range
 go_wp2_with (first | refine wpList_load_mid rfl 51 _ rfl w.heap.size 0 rfl (gc p) _ RA Tryz.underlying51 rfl (HSZ.out p) ?_ | refine wpList_load_mid rfl 51 _ rfl (w.heap.size+1) 0 rfl (gc q) _ RB Tryz.underlying51 rfl (HSZ.out q) ?_)
 clear RA RB
 refine HQ.out.mono ?_
 rintro e w3 ⟨rfl,hd⟩
 replace hb:=hb.trans (hd.mono hb.size)
 clear hd VA VB HQ HSZ
 go_wp2
 go_ret
 exact ⟨rfl,hb⟩
theorem toDesk_any (x:Gam) (p:GaA) (w:World) (ha:x.At p w) (hs:x.small) :
  Calls Tryz.prog 7 #[.agg (gcells x p).toArray] w fun e w'=>∃ q:GaA,e=.returned (.agg (gcells x q).toArray)∧x.Own q w.heap.size w'∧Below w.heap.size w w':=by
 obtain ⟨w3,hw3⟩:∃ w3,w3=((w.alloc (.cells (gcells x p).toArray 39)).alloc (.cells gzero.toArray 53)).alloc (.cells gzero.toArray 53):=⟨_,rfl⟩
 have hb:Below w.heap.size w w3:=by rw [hw3];exact (((Below.refl _ _).alloc (Nat.le_refl _) _).alloc (by simp) _).alloc (by simp;omega) _
 have VI:Hid (VarAt w3 w.heap.size 39 (gcells x p)):=by
  rw [hw3]
  exact Lh (((VarAt.new w 39 (gcells x p)).kept ((Below.refl _ _).alloc (Nat.le_refl _) _)).kept ((Below.refl _ _).alloc (Nat.le_refl _) _))
 have VR:Hid (VarAt w3 (w.heap.size+1) 53 gzero):=by
  rw [hw3]
  have:=(VarAt.new (w.alloc (.cells (gcells x p).toArray 39)) 53 gzero).kept ((Below.refl _ _).alloc (Nat.le_refl _) (.cells gzero.toArray 53))
  simp only [World.size_alloc] at this
  exact Lh this
 have VO:Hid (VarAt w3 (w.heap.size+1+1) 53 gzero):=by
  rw [hw3]
  have:=VarAt.new ((w.alloc (.cells (gcells x p).toArray 39)).alloc (.cells gzero.toArray 53)) 53 gzero
  simp only [World.size_alloc] at this
  exact Lh this
 have hz:w3.heap.size=w.heap.size+1+1+1:=by rw [hw3];simp only [World.size_alloc]
 have HTO:=Lh (toGame_any x p w3 (Gam.At.kept ha hb) hs)
 change Hid (Calls Tryz.prog 14 #[.agg (gcells x p).toArray] w3 fun e w'=>∃ q:GaA,e=.returned (.agg (gcells x q).toArray)∧x.Own q w3.heap.size w'∧Below w3.heap.size w3 w') at HTO
 have HW3:=Lh hw3
 have HSL:=Lh (size_lgame x p)
 have HSG:Hid (∀ q,(Tryz.prog.info? 51).map (·.size)=some (gcells x q).length):=Lh (size_game x)
 have HSD:Hid (∀ q,(Tryz.prog.info? 53).map (·.size)=some (gcells x q).length):=Lh (size_desk x)
 have HGL:Hid (∀ q,(gcells x q).length=30):=Lh (fun _=>rfl)
 have HG1:Hid (∀ q,∀ v∈gcells x q,v.oneCell'=true):=Lh (gcells_one x)
 have HZL:Hid (gzero.length=30):=Lh rfl
 clear hw3 ha hs
 generalize gcells x=gc at *
 go_enter Tryz.func7,Tryz.ntmps7
 go_upto_region 2 with fail
 change Code.wp _ _ _ _ (((w.alloc (.cells (gc p).toArray 39)).alloc (.cells gzero.toArray 53)).alloc (.cells gzero.toArray 53))
 rw [← HW3.out]
 clear HW3
 generalize gzero=gz at *
 have RG:=VI.out.range
 go_wp2_with (refine wpList_load_mid rfl 37 _ rfl w.heap.size 0 rfl (gc p) _ RG Tryz.underlying37 rfl HSL.out ?_)
 clear RG VI
 refine HTO.out.mono ?_
 rintro e w4 ⟨q,rfl,ho,hd⟩
 replace hb:=hb.trans (hd.mono hb.size)
 replace VR:=Lh (VR.out.kept hd)
 replace VO:=Lh (VO.out.kept hd)
 have HO:=Lh ho
 clear ho hd HTO HSL
 obtain ⟨o0,k0⟩:=VO.out.put (gc q) (by rw [HGL.out,HZL.out])
 have tR:=VO.out.there (n:=(gc q).length) (by rw [HGL.out,HZL.out])
 go_upto_region 3 with (refine wpList_store_mid rfl 51 _ _ rfl (w.heap.size+1+1) 0 (gc q).toArray rfl rfl tR (HSG.out q) (all_oneCell_toArray (HG1.out q)) ?_)
 clear tR
 change Code.wp _ _ _ _ (w4.setCells (w.heap.size+1+1) 0 (gc q))
 replace HO:=Lh (HO.out.store k0 (by omega))
 replace VR:=Lh (VR.out.grown k0 (by simp))
 replace hb:=hb.grown k0 hb.size (fun q h=>by cases h;omega)
 have VO:=Lh o0
 clear o0 k0
 generalize w4.setCells (w.heap.size+1+1) 0 (gc q)=w5 at *
 have rO:=VO.out.range
 have tR:=VR.out.there (n:=(gc q).length) (by rw [HGL.out,HZL.out])
 obtain ⟨o0,k0⟩:=VR.out.put (gc q) (by rw [HGL.out,HZL.out])
 have rZ:=o0.range
 replace HO:=Lh (HO.out.store k0 (by omega))
 replace hb:=hb.grown k0 hb.size (fun q h=>by cases h;omega)
 refine wp_region_list ?_
 refine wpList_load_mid rfl 53 _ rfl (w.heap.size+1+1) 0 rfl (gc q) _ rO Tryz.underlying53 rfl (HSD.out q) ?_
 refine wpList_store_mid rfl 53 _ _ rfl (w.heap.size+1) 0 (gc q).toArray rfl rfl tR (HSD.out q) (all_oneCell_toArray (HG1.out q)) ?_
 clear rO tR o0 k0 VO VR
 change wpList _ _ _ _ _ (w5.setCells (w.heap.size+1) 0 (gc q))
 generalize w5.setCells (w.heap.size+1) 0 (gc q)=wZ at *
 have hV:(loadVar 53 ⟨w.heap.size+1,0,none⟩).run Tryz.prog wZ=.ok (.agg (gc q).toArray) wZ:=run_loadVar_mid wZ _ 0 53 (gc q) _ rZ Tryz.underlying53 rfl (HSD.out q)
 have HV:=Lh hV
 clear rZ hV HSG HSD HGL HG1 HZL
 go_wp2
 refine bodyPost_ret (results_cell_var Tryz.results7 _ _ _ _ rfl HV.out) rfl ?_
 exact ⟨q,rfl,HO.out.mono (by omega),hb⟩
end Go.Proofs.YtalnbgcdhcnjfaaGreatDoor
