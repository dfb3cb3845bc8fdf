/- Plain lemmas: an exchange of tiles: what is left of a rack, the new rack and bag; an excha · Plain definitions and lemmas: the withdrawal of the last play of a game. No condition. -/
import Derived.Test.YtkjhapbjdjcipaaGreatDoorGpC
import Derived.Test.YtkjhapbjdjcipaaGreatDoorLgE
import Derived.Test.YtkjhapbjdjcipaaGreatDoorLgF
import Derived.Test.YtkjhapbjdjcipaaGreatDoorScE
import Derived.Test.YtkjhapbjdjcipaaGreatDoorGmS
namespace Go.Proofs.YtkjhapbjdjcipaaGreatDoor
open Go.ChangeShapes Go.WideShapes Go.ChangeAt Go.RowKit Go.Sort

/-! ### What is left -/
theorem takeS_perm (b:List UInt8):∀ (a:List UInt8) (k:Nat) (o:List UInt8),(b.take (a.foldl (tkS b) (k,o)).1++(a.foldl (tkS b) (k,o)).2).Perm (b.take k++o++a)
 | [],k,o=>by rw [List.append_nil];exact List.Perm.refl _
 | c :: a,k,o=>by
  rw [List.foldl_cons]
  by_cases h:b[k]?=some c
  ·have e:tkS b (k,o) c=(k+1,o):=by unfold tkS;rw [if_pos h]
   rw [e]
   refine (takeS_perm b a (k+1) o).trans ?_
   have h2:b.take (k+1)=b.take k++[c]:=by rw [List.take_add_one,h];rfl
   rw [h2]
   simp only [List.append_assoc,List.singleton_append]
   exact List.Perm.append_left _ (List.perm_middle.symm)
  ·have e:tkS b (k,o) c=(k,o++[c]):=by unfold tkS;rw [if_neg h]
   rw [e]
   refine (takeS_perm b a k (o++[c])).trans ?_
   simp only [List.append_assoc,List.singleton_append]
   exact List.Perm.refl _
theorem take_perm {a b:List UInt8} (h:takeK b a=b.length):(b++takeR b a).Perm a:=by
 have h1:=takeS_perm b a 0 []
 have h2:(a.foldl (tkS b) (0,[])).1=b.length:=(takeS_K b a).trans h
 rw [h2,List.take_length,List.take_zero] at h1
 exact h1
theorem tiles_perm {a b:List UInt8} (ha:a.all tileB=true) (hb:b.all tileB=true) (h:∀ k,k < 27→cntT a k=cntT b k):a.Perm b:=by
 rw [List.perm_iff_count]
 intro c
 cases hc:tileB c with
 | true =>
  obtain ⟨k,hk,_,rfl⟩:=tile_num hc
  exact h k hk
 | false =>
  have h1:c ∉ a:=fun hm=>by
   have:=(List.all_eq_true.1 ha) c hm
   rw [hc] at this
   cases this
  have h2:c ∉ b:=fun hm=>by
   have:=(List.all_eq_true.1 hb) c hm
   rw [hc] at this
   cases this
  rw [List.count_eq_zero.2 h1,List.count_eq_zero.2 h2]
theorem rest_perm {a b r:List UInt8} (ha:a.all tileB=true) (hh:hasT a b=true) (hr:(b++r).Perm a):(restL a b).Perm r:=by
 unfold restL
 rw [if_pos hh]
 refine tiles_perm (List.all_eq_true.2 fun c hc=>pile_tiles _ 27 (Nat.le_refl _) c hc) (List.all_eq_true.2 fun c hc=>(List.all_eq_true.1 ha) c (hr.mem_iff.1 (List.mem_append_right _ hc))) ?_
 intro k hk
 rw [pile_cnt (subI a b) hk 27 (Nat.le_refl _),if_pos hk]
 have h1:=cnt_perm hr k
 have h2:cntT (b++r) k=cntT b k+cntT r k:=List.count_append
 unfold subI cntI
 omega
theorem rest_all {a b:List UInt8}:(restL a b).all tileB=true:=by
 unfold restL
 split
 ·exact List.all_eq_true.2 fun c hc=>pile_tiles _ 27 (Nat.le_refl _) c hc
 ·rfl
theorem pile_parts {l:List UInt8} (h:pileOk l=true):l.all tileB=true∧SortedT l∧l.length≤120:=by
 obtain ⟨h1,h2,h3⟩:=pileOk_iff.1 h
 refine ⟨List.all_eq_true.2 fun c hc=>?_,chain_sorted h2,h3⟩
 obtain ⟨j,hj,rfl⟩:=List.getElem_of_mem hc
 have:=h1 j hj
 rwa [u8_at hj] at this
theorem rack_parts {l:List UInt8} (h:rackOk l=true):pileOk l=true∧l.length≤7:=by
 unfold rackOk at h
 rwa [Bool.and_eq_true,decide_eq_true_eq] at h
/-- what an exchange that is allowed knows -/
structure Exch (bag rack tiles:List UInt8):Prop where
 gbag:bagOk bag=true
 grack:rackOk rack=true
 gtiles:pileOk tiles=true
 gsome:0 < tiles.length
 has:hasT rack tiles=true
 seven:7≤bag.length
end Go.Proofs.YtkjhapbjdjcipaaGreatDoor
namespace Go.Proofs.YtkjhapbjdjcipaaGreatDoor
open Go.ChangeShapes Go.WideShapes Go.ChangeAt Go.RowKit Go.Sort

/-- the rack that the last play is taken back to -/
def Gam.rackB (x:Gam):List UInt8:=srtL (restL x.mover.data.toList x.last.drawn.data.toList++x.before.tiles x.last.play)
/-- the game ahead of its last play; the turn is lost -/
def Gam.back1 (x:Gam):Gam:={ x with board:=x.before,bag:=x.last.drawn++x.bag,racks:=x.racks.set x.last.player.toNat (mkB x.rackB),scores:=x.scores.set x.last.player.toNat (x.scores.getD x.last.player.toNat 0 - x.last.score),zeros:=x.last.zeros+1,last:=Lst.turn 3 x.last.player }
def Gam.back (x:Gam):Gam:=if x.last.zeros+1=6 then x.back1.settled else x.back1
/-- a withdrawal, and a code -/
def Gam.withdrawOf (x:Gam):Gam × Int:=if ¬ x.begin 0=0 then (Gam.none,x.begin 0) else if x.last.kind=1 then (x.back,0) else (Gam.none,6)
theorem Gam.with1 {x:Gam} (h:¬ x.begin 0=0):x.withdrawOf=(Gam.none,x.begin 0):=by unfold Gam.withdrawOf;rw [if_pos h]
theorem Gam.with2 {x:Gam} (h:x.begin 0=0) (h1:¬ x.last.kind=1):x.withdrawOf=(Gam.none,6):=by unfold Gam.withdrawOf;rw [if_neg (fun k=>k h),if_neg h1]
theorem Gam.with3 {x:Gam} (h:x.begin 0=0) (h1:x.last.kind=1):x.withdrawOf=(x.back,0):=by unfold Gam.withdrawOf;rw [if_neg (fun k=>k h),if_pos h1]
theorem Gam.back_yes {x:Gam} (h:x.last.zeros+1=6):x.back=x.back1.settled:=by unfold Gam.back;rw [if_pos h]
theorem Gam.back_no {x:Gam} (h:¬ x.last.zeros+1=6):x.back=x.back1:=by unfold Gam.back;rw [if_neg h]
/-- what a withdrawal asks of a game -/
structure Gam.Wd (x:Gam):Prop where
 tiles:x.setup.tiles.ok=true
 racks:x.racks.length=2
 scores:x.scores.length=2
 clocks:x.clocks.length=2
 player:0≤x.last.player∧x.last.player≤1
 rack:∀ k,k < 2→rackOk (x.rack k).data.toList=true
 clock:∀ k,k < 2→-36000≤x.clocks.getD k 0∧x.clocks.getD k 0≤36000
 bag:bagOk x.bag.data.toList=true
 play:∃ n,PGood x.before x.last.play n
 placed:(x.before.fresh x.last.play).length≤7
 drawn:bagOk x.last.drawn.data.toList=true
 len:x.mover.size+(x.before.fresh x.last.play).length≤7+x.last.drawn.size
 has:hasT x.mover.data.toList x.last.drawn.data.toList=true
 score:0≤x.last.score∧x.last.score≤20000
 zeros:0≤x.last.zeros∧x.last.zeros≤5
 score0:-50000≤x.scores.getD 0 0∧x.scores.getD 0 0≤50000
 score1:-50000≤x.scores.getD 1 0∧x.scores.getD 1 0≤50000
theorem Brd.score_nn {b:Brd} {p:Ply} {n:Nat} (h:PGood b p n) {x:Tls} (hx:x.Good):0≤b.score p x:=by
 have h1:=(sum_range (xs:=b.parts p x) (fun v hv=>parts_range h hx v hv)).1
 unfold Brd.score
 split<;>omega
theorem Gam.wd {x:Gam} (h:x.begin 0=0) (hk:x.last.kind=1):x.Wd:=by
 have hb:=Gam.begin_go h
 have hf:=Gam.fine hb.ok
 have ho:=hb.ok
 unfold Gam.ok at ho
 simp only [Bool.and_eq_true] at ho
 have hl:x.lastOk=true:=ho.2.2.2.2.2.2.2
 unfold Gam.lastOk at hl
 rw [if_neg (by rw [hk];decide),if_neg (by rw [hk];decide),if_neg (by rw [hk];decide),if_pos hk] at hl
 unfold Gam.playOk at hl
 simp only [Bool.and_eq_true,decide_eq_true_eq,withinB_iff] at hl
 obtain ⟨h1,h2,h3,h4,h5,h6,h7,h8,h9,h10,h11,h12⟩:=hl
 have hp:=hf.player
 obtain ⟨n,hn⟩:=okPlay_good h2
 unfold Gam.placed at h4 h7
 exact ⟨hf.tiles,hf.racks,hf.scores,hf.clocks,by omega,hf.rack,hf.clock,hf.bag,⟨n,hn⟩,h4,h5,by omega,h8,⟨by rw [h9];exact Brd.score_nn hn (Tls.good hf.tiles),h10⟩,h11,hb.score0,hb.score1⟩
theorem Gam.Wd.mover_pile {x:Gam} (h:x.Wd):pileOk x.mover.data.toList=true∧x.mover.data.toList.length≤7:=rack_parts (h.rack x.last.player.toNat (by have:=h.player;omega))
theorem tiles_len (b:Brd) (p:Ply):(b.tiles p).length=(b.fresh p).length:=by unfold Brd.tiles;rw [List.length_map,placedB_len]
theorem Gam.Wd.tiles_all {x:Gam} (h:x.Wd):(x.before.tiles x.last.play).all tileB=true:=by
 obtain ⟨n,hn⟩:=h.play
 exact List.all_eq_true.2 hn.tiles_ok
/-- what is left of the rack, whoever takes the drawn tiles off -/
theorem Gam.Wd.rest {x:Gam} (h:x.Wd) {R:List UInt8} (hR:SortedT R) (hp:R.Perm x.last.drawn.data.toList) :
  takeK R x.mover.data.toList=R.length∧(restL x.mover.data.toList x.last.drawn.data.toList).Perm (takeR R x.mover.data.toList):=by
 obtain ⟨m1,_⟩:=h.mover_pile
 obtain ⟨a1,a2,_⟩:=pile_parts m1
 obtain ⟨d1,_⟩:=bag_parts h.drawn
 have hRt:∀ c∈R,tileB c=true:=fun c hc=>(List.all_eq_true.1 d1) c (hp.mem_iff.1 hc)
 have hh:hasT x.mover.data.toList R=true:=by
  rw [hasT_iff]
  intro k hk
  rw [cnt_perm hp k]
  exact (hasT_iff.1 h.has) k hk
 have h1:=take_has a2 hR hRt
 rw [hh,decide_eq_true_eq] at h1
 have h2:=take_perm h1
 exact ⟨h1,rest_perm a1 h.has ((List.Perm.append_right _ hp.symm).trans h2)⟩
theorem Gam.Wd.rackB_len {x:Gam} (h:x.Wd):x.rackB.length≤7∧(restL x.mover.data.toList x.last.drawn.data.toList).length≤7:=by
 obtain ⟨m1,m2⟩:=h.mover_pile
 obtain ⟨a1,a2,_⟩:=pile_parts m1
 obtain ⟨d1,_⟩:=bag_parts h.drawn
 obtain ⟨_,h2⟩:=h.rest (srt_sort _) (srt_perm d1)
 have h3:=h2.length_eq
 have h4:=take_perm (h.rest (srt_sort _) (srt_perm d1)).1
 have h5:=h4.length_eq
 rw [List.length_append,srt_len d1] at h5
 have h6:=h.len
 have h7:x.mover.size=x.mover.data.toList.length:=by simp
 have h8:x.last.drawn.size=x.last.drawn.data.toList.length:=by simp
 have ht:(restL x.mover.data.toList x.last.drawn.data.toList++x.before.tiles x.last.play).all tileB=true:=by
  rw [List.all_append,Bool.and_eq_true]
  exact ⟨rest_all,h.tiles_all⟩
 unfold Gam.rackB
 rw [srt_len ht,List.length_append,tiles_len]
 omega
/-- the new rack, however it is sorted -/
theorem Gam.Wd.rackB_of {x:Gam} (h:x.Wd) {R D P:List UInt8} (hD:SortedT D) (hDp:D.Perm x.last.drawn.data.toList) (hP:P.Perm (x.before.tiles x.last.play)) (hR:SortedT R) (hRp:R.Perm (takeR D x.mover.data.toList++P)):R=x.rackB:=by
 unfold Gam.rackB
 obtain ⟨_,h2⟩:=h.rest hD hDp
 refine srt_of ?_ hR (hRp.trans (List.Perm.append h2.symm hP))
 rw [List.all_append,Bool.and_eq_true]
 exact ⟨rest_all,h.tiles_all⟩
theorem Gam.rack_set {x:Gam} {i j:Nat} {v:ByteArray} (hj:(x.rack j).size≤7) (hv:v.size≤7):((x.racks.set i v).getD j ⟨#[]⟩).size≤7:=by
 rw [List.getD_eq_getElem?_getD,List.getElem?_set]
 split
 ·split
  ·exact hv
  ·exact Nat.zero_le _
 ·rw [← List.getD_eq_getElem?_getD]
  exact hj
theorem Gam.Wd.cf {x:Gam} (h:x.Wd):x.back1.Cf:=by
 refine ⟨h.tiles,by simpa [Gam.back1] using h.racks,h.clocks,?_,h.clock⟩
 intro j hj
 have h1:=(rack_parts (h.rack j hj)).2
 exact Gam.rack_set (x:=x) (by simpa using h1) (by rw [mkB_size];exact h.rackB_len.1)
theorem Gam.Wd.score_at {x:Gam} (h:x.Wd) {j:Nat} (hj:j < 2):-200000≤x.back1.scores.getD j 0∧x.back1.scores.getD j 0≤200000:=by
 have s0:=h.score0
 have s1:=h.score1
 have s2:=h.score
 have s3:∀ i,i < 2→-50000≤x.scores.getD i 0∧x.scores.getD i 0≤50000:=by
  intro i hi
  match i,hi with
  | 0,_=>exact s0
  | 1,_=>exact s1
 have hp:=h.player
 show -200000≤(x.scores.set _ _).getD j 0∧(x.scores.set _ _).getD j 0≤200000
 rw [getD_set2 h.scores (by omega)]
 have s4:=s3 j hj
 have s5:=s3 x.last.player.toNat (by omega)
 split<;>omega
theorem Gam.Wd.fine {x:Gam} (h:x.Wd) (hf:x.fit) (hs:x.small):x.back1.fit∧x.back1.small:=by
 obtain ⟨h1,h2,h3,⟨h4,g4⟩,h5,h6,h7,h8,h9⟩:=hf
 obtain ⟨s1,s2,s3,s4⟩:=hs
 have hb:=(bag_parts h.bag).2
 have hd:=(bag_parts h.drawn).2
 refine ⟨⟨h1,⟨h2.1,h8⟩,?_,⟨?_,?_⟩,?_,h6,Lst.turn_fit _ _⟩,s1,?_,?_,s4⟩
 ·show (x.last.drawn++x.bag).size≤_
  rw [cat_mk,mkB_size,List.length_append]
  omega
 ·simpa [Gam.back1] using h4
 ·intro m hm
  rcases List.mem_or_eq_of_mem_set hm with hm | rfl
  ·exact g4 m hm
  ·rw [mkB_size]
   have:=h.rackB_len.1
   omega
 ·simpa [Gam.back1] using h5
 ·simpa [Gam.back1] using s2
 ·simpa [Gam.back1] using s3
theorem Gam.withdrawOf_small (x:Gam) (hf:x.fit) (hs:x.small):x.withdrawOf.1.fit∧x.withdrawOf.1.small:=by
 by_cases h:x.begin 0=0
 ·by_cases h1:x.last.kind=1
  ·rw [Gam.with3 h h1]
   have h2:=(Gam.wd h h1).fine hf hs
   by_cases h3:x.last.zeros+1=6
   ·rw [Gam.back_yes h3];exact Gam.settled_fine h2
   ·rw [Gam.back_no h3];exact h2
  ·rw [Gam.with2 h h1];exact Gam.none_fine
 ·rw [Gam.with1 h];exact Gam.none_fine
end Go.Proofs.YtkjhapbjdjcipaaGreatDoor
