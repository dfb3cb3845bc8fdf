/- Plain lemmas: an exchange of tiles: what is left of a rack, the new rack and bag; an exchange turn. No condition. -/
import Derived.Test.YtkjhapbjdjcipaaGreatDoorGpC
import Derived.Test.YtkjhapbjdjcipaaGreatDoorLgE
namespace Go.Proofs.YtkjhapbjdjcipaaGreatDoor
open Go.ChangeShapes Go.WideShapes Go.ChangeAt Go.RowKit Go.Sort

/-! ### What is left -/
theorem takeS_perm (b:List UInt8):∀ (a:List UInt8) (k:Nat) (o:List UInt8),(b.take (a.foldl (tkS b) (k,o)).1++(a.foldl (tkS b) (k,o)).2).Perm (b.take k++o++a)
 | [],k,o=>by rw [List.append_nil];exact List.Perm.refl _
 | c :: a,k,o=>by
  rw [List.foldl_cons]
  by_cases h:b[k]?=some c
  ·have e:tkS b (k,o) c=(k+1,o):=by unfold tkS;rw [if_pos h]
   rw [e]
   refine (takeS_perm b a (k+1) o).trans ?_
   have h2:b.take (k+1)=b.take k++[c]:=by rw [List.take_add_one,h];rfl
   rw [h2]
   simp only [List.append_assoc,List.singleton_append]
   exact List.Perm.append_left _ (List.perm_middle.symm)
  ·have e:tkS b (k,o) c=(k,o++[c]):=by unfold tkS;rw [if_neg h]
   rw [e]
   refine (takeS_perm b a k (o++[c])).trans ?_
   simp only [List.append_assoc,List.singleton_append]
   exact List.Perm.refl _
theorem take_perm {a b:List UInt8} (h:takeK b a=b.length):(b++takeR b a).Perm a:=by
 have h1:=takeS_perm b a 0 []
 have h2:(a.foldl (tkS b) (0,[])).1=b.length:=(takeS_K b a).trans h
 rw [h2,List.take_length,List.take_zero] at h1
 exact h1
theorem tiles_perm {a b:List UInt8} (ha:a.all tileB=true) (hb:b.all tileB=true) (h:∀ k,k < 27→cntT a k=cntT b k):a.Perm b:=by
 rw [List.perm_iff_count]
 intro c
 cases hc:tileB c with
 | true =>
  obtain ⟨k,hk,_,rfl⟩:=tile_num hc
  exact h k hk
 | false =>
  have h1:c ∉ a:=fun hm=>by
   have:=(List.all_eq_true.1 ha) c hm
   rw [hc] at this
   cases this
  have h2:c ∉ b:=fun hm=>by
   have:=(List.all_eq_true.1 hb) c hm
   rw [hc] at this
   cases this
  rw [List.count_eq_zero.2 h1,List.count_eq_zero.2 h2]
theorem rest_perm {a b r:List UInt8} (ha:a.all tileB=true) (hh:hasT a b=true) (hr:(b++r).Perm a):(restL a b).Perm r:=by
 unfold restL
 rw [if_pos hh]
 refine tiles_perm (List.all_eq_true.2 fun c hc=>pile_tiles _ 27 (Nat.le_refl _) c hc) (List.all_eq_true.2 fun c hc=>(List.all_eq_true.1 ha) c (hr.mem_iff.1 (List.mem_append_right _ hc))) ?_
 intro k hk
 rw [pile_cnt (subI a b) hk 27 (Nat.le_refl _),if_pos hk]
 have h1:=cnt_perm hr k
 have h2:cntT (b++r) k=cntT b k+cntT r k:=List.count_append
 unfold subI cntI
 omega
theorem rest_all {a b:List UInt8}:(restL a b).all tileB=true:=by
 unfold restL
 split
 ·exact List.all_eq_true.2 fun c hc=>pile_tiles _ 27 (Nat.le_refl _) c hc
 ·rfl
theorem pile_parts {l:List UInt8} (h:pileOk l=true):l.all tileB=true∧SortedT l∧l.length≤120:=by
 obtain ⟨h1,h2,h3⟩:=pileOk_iff.1 h
 refine ⟨List.all_eq_true.2 fun c hc=>?_,chain_sorted h2,h3⟩
 obtain ⟨j,hj,rfl⟩:=List.getElem_of_mem hc
 have:=h1 j hj
 rwa [u8_at hj] at this
theorem rack_parts {l:List UInt8} (h:rackOk l=true):pileOk l=true∧l.length≤7:=by
 unfold rackOk at h
 rwa [Bool.and_eq_true,decide_eq_true_eq] at h
/-- what the reference's own way of taking leaves is what the program's way leaves, in another order -/
theorem take_rest {a b:List UInt8} (ha:pileOk a=true) (hb:pileOk b=true) (hh:hasT a b=true):(b++takeR b a).Perm a∧(restL a b).Perm (takeR b a):=by
 obtain ⟨a1,a2,_⟩:=pile_parts ha
 obtain ⟨b1,b2,_⟩:=pile_parts hb
 have h1:=take_has a2 b2 (List.all_eq_true.1 b1)
 rw [hh,decide_eq_true_eq] at h1
 exact ⟨take_perm h1,rest_perm a1 hh (take_perm h1)⟩

/-! ### An exchange -/
def newRack (bag rack tiles:List UInt8):List UInt8:=srtL (restL rack tiles++bag.take tiles.length)
def newBag (bag tiles:List UInt8):List UInt8:=bag.drop tiles.length++tiles
def exchOf (bag rack tiles:List UInt8):List UInt8 × List UInt8 × Int :=
 if ¬ (bagOk bag=true∧rackOk rack=true∧pileOk tiles=true) then ([],[],1)
 else if tiles.length=0 then ([],[],2)
 else if hasT rack tiles=false then ([],[],3)
 else if bag.length < 7 then ([],[],6)
 else (newRack bag rack tiles,newBag bag tiles,0)
theorem exch1 {bag rack tiles:List UInt8} (h:¬ (bagOk bag=true∧rackOk rack=true∧pileOk tiles=true)):exchOf bag rack tiles=([],[],1):=by unfold exchOf;rw [if_pos h]
theorem exch2 {bag rack tiles:List UInt8} (h:bagOk bag=true∧rackOk rack=true∧pileOk tiles=true) (h2:tiles.length=0):exchOf bag rack tiles=([],[],2):=by unfold exchOf;rw [if_neg (fun k=>k h),if_pos h2]
theorem exch3 {bag rack tiles:List UInt8} (h:bagOk bag=true∧rackOk rack=true∧pileOk tiles=true) (h2:¬ tiles.length=0) (h3:hasT rack tiles=false):exchOf bag rack tiles=([],[],3):=by unfold exchOf;rw [if_neg (fun k=>k h),if_neg h2,if_pos h3]
theorem exch4 {bag rack tiles:List UInt8} (h:bagOk bag=true∧rackOk rack=true∧pileOk tiles=true) (h2:¬ tiles.length=0) (h3:hasT rack tiles=true) (h4:bag.length < 7):exchOf bag rack tiles=([],[],6):=by unfold exchOf;rw [if_neg (fun k=>k h),if_neg h2,if_neg (by rw [h3];decide),if_pos h4]
theorem exch5 {bag rack tiles:List UInt8} (h:bagOk bag=true∧rackOk rack=true∧pileOk tiles=true) (h2:¬ tiles.length=0) (h3:hasT rack tiles=true) (h4:¬ bag.length < 7):exchOf bag rack tiles=(newRack bag rack tiles,newBag bag tiles,0):=by unfold exchOf;rw [if_neg (fun k=>k h),if_neg h2,if_neg (by rw [h3];decide),if_neg h4]
/-- what an exchange that is allowed knows -/
structure Exch (bag rack tiles:List UInt8):Prop where
 gbag:bagOk bag=true
 grack:rackOk rack=true
 gtiles:pileOk tiles=true
 gsome:0 < tiles.length
 has:hasT rack tiles=true
 seven:7≤bag.length
theorem exch_of {bag rack tiles:List UInt8} (h:(exchOf bag rack tiles).2.2=0):Exch bag rack tiles∧exchOf bag rack tiles=(newRack bag rack tiles,newBag bag tiles,0):=by
 by_cases h1:bagOk bag=true∧rackOk rack=true∧pileOk tiles=true
 ·by_cases h2:tiles.length=0
  ·rw [exch2 h1 h2] at h;cases h
  ·cases h3:hasT rack tiles with
   | false=>rw [exch3 h1 h2 h3] at h;cases h
   | true =>
    by_cases h4:bag.length < 7
    ·rw [exch4 h1 h2 h3 h4] at h;cases h
    ·exact ⟨⟨h1.1,h1.2.1,h1.2.2,by omega,h3,by omega⟩,exch5 h1 h2 h3 h4⟩
 ·rw [exch1 h1] at h;cases h
theorem Exch.rest_len {bag rack tiles:List UInt8} (h:Exch bag rack tiles):(restL rack tiles).length+tiles.length=rack.length:=by
 obtain ⟨h1,h2⟩:=take_rest (rack_parts h.grack).1 h.gtiles h.has
 have:=h1.length_eq
 have:=h2.length_eq
 rw [List.length_append] at *
 omega
theorem Exch.rack_len {bag rack tiles:List UInt8} (h:Exch bag rack tiles):(newRack bag rack tiles).length≤7∧(newBag bag tiles).length=bag.length:=by
 have h1:=h.rest_len
 have h2:=(rack_parts h.grack).2
 have h3:=h.seven
 have hb:=(bag_parts h.gbag).1
 have ht:(restL rack tiles++bag.take tiles.length).all tileB=true:=by
  rw [List.all_append,Bool.and_eq_true]
  exact ⟨rest_all,List.all_eq_true.2 fun c hc=>(List.all_eq_true.1 hb) c (List.mem_of_mem_take hc)⟩
 unfold newRack newBag
 rw [srt_len ht,List.length_append,List.length_append,List.length_take,List.length_drop]
 omega
/-- the game with another rack and another bag -/
def Gam.swap1 (x:Gam) (r b:List UInt8):Gam:={ x with racks:=x.racks.set x.player.toNat (mkB r),bag:=mkB b }
def Gam.exch (x:Gam) (s:ByteArray):List UInt8 × List UInt8 × Int:=exchOf x.bag.data.toList (x.rack x.player.toNat).data.toList s.data.toList
/-- an exchange, and a code -/
def Gam.swapOf (x:Gam) (s:ByteArray) (k:Int):Gam × Int :=
 if pileOk s.data.toList=false then (Gam.none,1)
 else if ¬ x.begin k=0 then (Gam.none,x.begin k)
 else if ¬ (x.exch s).2.2=0 then (Gam.none,(x.exch s).2.2)
 else ((x.swap1 (x.exch s).1 (x.exch s).2.1).zero2 2 k,0)
theorem Gam.swapA {x:Gam} {s:ByteArray} {k:Int} (h:pileOk s.data.toList=false):x.swapOf s k=(Gam.none,1):=by unfold Gam.swapOf;rw [if_pos h]
theorem Gam.swapB {x:Gam} {s:ByteArray} {k:Int} (h:pileOk s.data.toList=true) (h1:¬ x.begin k=0):x.swapOf s k=(Gam.none,x.begin k):=by unfold Gam.swapOf;rw [if_neg (by rw [h];decide),if_pos h1]
theorem Gam.swapC {x:Gam} {s:ByteArray} {k:Int} (h:pileOk s.data.toList=true) (h1:x.begin k=0) (h2:¬ (x.exch s).2.2=0):x.swapOf s k=(Gam.none,(x.exch s).2.2):=by unfold Gam.swapOf;rw [if_neg (by rw [h];decide),if_neg (fun g=>g h1),if_pos h2]
theorem Gam.swapD {x:Gam} {s:ByteArray} {k:Int} (h:pileOk s.data.toList=true) (h1:x.begin k=0) (h2:(x.exch s).2.2=0):x.swapOf s k=((x.swap1 (x.exch s).1 (x.exch s).2.1).zero2 2 k,0):=by unfold Gam.swapOf;rw [if_neg (by rw [h];decide),if_neg (fun g=>g h1),if_neg (fun g=>g h2)]
theorem newBag_size {bag rack tiles:List UInt8} (h:Exch bag rack tiles):¬ (mkB (newBag bag tiles)).size=0:=by
 have h1:=h.rack_len.2
 have h2:=h.seven
 rw [mkB_size]
 omega
theorem Gam.swap1_fine {x:Gam} {s:ByteArray} (hf:x.fit) (hs:x.small) (h:Exch x.bag.data.toList (x.rack x.player.toNat).data.toList s.data.toList) :
  (x.swap1 (newRack x.bag.data.toList (x.rack x.player.toNat).data.toList s.data.toList) (newBag x.bag.data.toList s.data.toList)).fit∧(x.swap1 (newRack x.bag.data.toList (x.rack x.player.toNat).data.toList s.data.toList) (newBag x.bag.data.toList s.data.toList)).small:=by
 obtain ⟨h1,h2,h3,⟨h4,g4⟩,h5,h6,h7⟩:=hf
 obtain ⟨s1,s2,s3,s4⟩:=hs
 obtain ⟨r1,r2⟩:=h.rack_len
 have hb:=(bag_parts h.gbag).2
 refine ⟨⟨h1,h2,?_,⟨?_,?_⟩,h5,h6,h7⟩,s1,?_,s3,s4⟩
 ·show (mkB _).size≤_
  rw [mkB_size]
  omega
 ·simpa [Gam.swap1] using h4
 ·intro m hm
  rcases List.mem_or_eq_of_mem_set hm with hm | rfl
  ·exact g4 m hm
  ·rw [mkB_size]
   omega
 ·simpa [Gam.swap1] using s2
theorem Gam.swapOf_small (x:Gam) (s:ByteArray) (k:Int) (hf:x.fit) (hs:x.small) (_:s.size≤1048576):(x.swapOf s k).1.fit∧(x.swapOf s k).1.small:=by
 cases h:pileOk s.data.toList with
 | false=>rw [Gam.swapA h];exact Gam.none_fine
 | true =>
  by_cases h1:x.begin k=0
  ·by_cases h2:(x.exch s).2.2=0
   ·rw [Gam.swapD h h1 h2]
    obtain ⟨h3,h4⟩:=exch_of h2
    have h5:x.exch s=_:=h4
    obtain ⟨g1,g2⟩:=Gam.swap1_fine hf hs h3
    rw [h5]
    exact Gam.zero2_fine g1 g2 2 k
   ·rw [Gam.swapC h h1 h2];exact Gam.none_fine
  ·rw [Gam.swapB h h1];exact Gam.none_fine
/-- what is left when the tiles are another game's: a turn without points may begin -/
theorem Gam.swap1_able {x:Gam} {k:Int} {r b:List UInt8} (h:x.Able k) (hr:r.length≤7):(x.swap1 r b).Able k:=by
 refine ⟨h.tiles,by simpa [Gam.swap1] using h.racks,h.scores,h.clocks,h.player,h.zeros,?_,h.clock,h.secs,h.left,h.score0,h.score1⟩
 intro j hj
 have h1:=h.rack j hj
 show ((x.racks.set x.player.toNat (mkB r)).getD j ⟨#[]⟩).size≤7
 rw [List.getD_eq_getElem?_getD,List.getElem?_set]
 split
 ·split
  ·show (mkB r).size≤7
   rw [mkB_size]
   exact hr
  ·exact Nat.zero_le _
 ·rw [← List.getD_eq_getElem?_getD]
  exact h1
end Go.Proofs.YtkjhapbjdjcipaaGreatDoor
