/- Plain definitions and lemmas: tiles, piles, counts of tiles, whether one pile contains another. No condition. · Plain lemmas: the pile of the counts of a list of tiles is the sorted list; sorted lists of the same elements are equal; taking tiles away. No condition. -/
import Derived.Test.YtgphkffbbmmmmaaGreatDoorPlaP
namespace Go.Proofs.YtgphkffbbmmmmaaGreatDoor
open Go.ChangeShapes Go.WideShapes Go.ChangeAt Go.RowKit Go.Sort

/-- the k-th tile: the blank, then the letters -/
def tileC (k:Nat):UInt8:=if k=0 then 63 else UInt8.ofNat (96+k)
theorem tileC_nat {k:Nat} (h:k < 27):(tileC k).toNat=if k=0 then 63 else 96+k:=by
 unfold tileC
 by_cases e:k=0
 ·rw [if_pos e,if_pos e];rfl
 ·rw [if_neg e,if_neg e,UInt8.toNat_ofNat']
  omega
theorem tileC_inj {j k:Nat} (hj:j < 27) (hk:k < 27) (h:tileC j=tileC k):j=k:=by
 have h1:=congrArg UInt8.toNat h
 rw [tileC_nat hj,tileC_nat hk] at h1
 split at h1<;>split at h1<;>omega
/-- is a byte a tile? -/
def tileI (c:Int):Bool:=c == 63 || smallB c
def tileB (c:UInt8):Bool:=tileI c.toNat
theorem tileB_nat (c:UInt8):tileB c=(c.toNat == 63 || smallB c.toNat):=by
 unfold tileB tileI
 congr 1
 rw [Bool.eq_iff_iff,beq_iff_eq,beq_iff_eq]
 omega
/-- a tile's number, or -1 -/
def plI (c:UInt8):Int:=if c.toNat=63 then 0 else if smallB c.toNat then (c.toNat:Int) - 97+1 else -1
theorem tile_num {c:UInt8} (h:tileB c=true):∃ k:Nat,k < 27∧plI c=k∧c=tileC k:=by
 rw [tileB_nat,Bool.or_eq_true,beq_iff_eq] at h
 unfold plI
 by_cases e:c.toNat=63
 ·refine ⟨0,by omega,by rw [if_pos e];rfl,?_⟩
  exact UInt8.toNat_inj.1 (by rw [tileC_nat (by omega),if_pos rfl,e])
 ·have hs:smallB c.toNat=true:=h.resolve_left e
  have hr:97≤c.toNat∧c.toNat≤122:=by
   unfold smallB at hs
   rw [Bool.and_eq_true,decide_eq_true_eq,decide_eq_true_eq] at hs
   omega
  refine ⟨c.toNat - 96,by omega,by rw [if_neg e,if_pos hs];omega,?_⟩
  exact UInt8.toNat_inj.1 (by rw [tileC_nat (by omega),if_neg (by omega)];omega)
theorem plI_neg {c:UInt8}:decide (plI c < 0)=!tileB c:=by
 rw [tileB_nat]
 unfold plI
 by_cases e:c.toNat=63
 ·rw [if_pos e,e];rfl
 ·have e':(c.toNat == 63)=false:=by rw [beq_eq_false_iff_ne];exact e
  rw [if_neg e,e',Bool.false_or]
  cases hs:smallB c.toNat with
  | true =>
   unfold smallB at hs
   rw [Bool.and_eq_true,decide_eq_true_eq,decide_eq_true_eq] at hs
   rw [if_pos rfl]
   exact decide_eq_false (by omega)
  | false=>rw [if_neg (by simp)];rfl
/-- how often the k-th tile is in a list -/
def cntT (l:List UInt8) (k:Nat):Nat:=l.count (tileC k)
theorem cntT_snoc (l:List UInt8) (c:UInt8) (k:Nat):cntT (l++[c]) k=cntT l k+if c=tileC k then 1 else 0:=by
 unfold cntT
 rw [List.count_append,List.count_singleton]
 congr 1
 by_cases e:c=tileC k
 ·rw [if_pos e,if_pos (by rw [e];exact beq_self_eq_true _)]
 ·rw [if_neg e,if_neg (by rw [beq_iff_eq];exact e)]
theorem cntT_le (l:List UInt8) (k:Nat):cntT l k≤l.length:=List.count_le_length
/-- 27 numbers as the cells of an array -/
def cellsN (f:Nat→Int):List Value:=(List.range 27).map fun k=>Value.int .i64 (f k)
theorem cellsN_len (f:Nat→Int):(cellsN f).length=27:=by simp [cellsN]
theorem cellsN_get (f:Nat→Int) {k:Nat} (h:k < 27):(cellsN f)[k]?=some (.int .i64 (f k)):=by
 unfold cellsN
 rw [List.getElem?_map,List.getElem?_range h]
 rfl
theorem cellsN_set (f:Nat→Int) {i:Nat} (h:i < 27) (v:Int):(cellsN f).set i (.int .i64 v)=cellsN fun k=>if k=i then v else f k:=by
 apply List.ext_getElem?
 intro j
 rw [List.getElem?_set]
 by_cases hj:j < 27
 ·rw [cellsN_get f hj,cellsN_get _ hj,cellsN_len]
  by_cases e:i=j
  ·subst e
   rw [if_pos rfl,if_pos h,if_pos rfl]
  ·rw [if_neg e,if_neg (fun (x:j=i)=>e x.symm)]
 ·rw [List.getElem?_eq_none (by rw [cellsN_len];omega)]
  rw [if_neg (by omega),List.getElem?_eq_none (by rw [cellsN_len];omega)]
theorem cellsN_congr {f g:Nat→Int} (h:∀ k,k < 27→f k=g k):cellsN f=cellsN g:=by
 unfold cellsN
 exact List.map_congr_left fun k hk=>by rw [h k (List.mem_range.1 hk)]
theorem cellsN_one (f:Nat→Int):∀ v∈cellsN f,v.oneCell'=true:=by
 intro v hv
 obtain ⟨k,_,rfl⟩:=List.mem_map.1 hv
 rfl
theorem cellsN_zero:cellsN (fun _=>0)=[.int .i64 0,.int .i64 0,.int .i64 0,.int .i64 0,.int .i64 0,.int .i64 0,.int .i64 0,.int .i64 0,.int .i64 0,.int .i64 0,.int .i64 0,.int .i64 0,.int .i64 0,.int .i64 0,.int .i64 0,.int .i64 0,.int .i64 0,.int .i64 0,.int .i64 0,.int .i64 0,.int .i64 0,.int .i64 0,.int .i64 0,.int .i64 0,.int .i64 0,.int .i64 0,.int .i64 0]:=rfl
def pileL (f:Nat→Int) (n:Nat):List UInt8:=(List.range n).flatMap fun k=>List.replicate (f k).toNat (tileC k)
theorem pileL_zero (f:Nat→Int):pileL f 0=[]:=rfl
theorem pileL_succ (f:Nat→Int) (n:Nat):pileL f (n+1)=pileL f n++List.replicate (f n).toNat (tileC n):=by
 unfold pileL
 rw [List.range_succ,List.flatMap_append]
 simp
theorem rep_snoc {α:Type} (n:Nat) (x:α):List.replicate (n+1) x=List.replicate n x++[x]:=by
 rw [List.replicate_succ']
theorem pile_cnt (f:Nat→Int) {i:Nat} (hi:i < 27):∀ n,n≤27→cntT (pileL f n) i=if i < n then (f i).toNat else 0
 | 0,_=>by rw [pileL_zero,if_neg (by omega)];rfl
 | n+1,h=>by
  rw [pileL_succ]
  unfold cntT
  rw [List.count_append]
  have ih:=pile_cnt f hi n (by omega)
  unfold cntT at ih
  rw [ih,List.count_replicate]
  by_cases e:n=i
  ·subst e
   have e1:(tileC n == tileC n)=true:=beq_self_eq_true _
   rw [e1]
   simp
  ·have e3:(tileC n == tileC i)=false:=beq_eq_false_iff_ne.2 fun x=>e (tileC_inj (by omega) hi x)
   rw [e3]
   by_cases e2:i < n
   ·have e4:i < n+1:=by omega
    simp [e2,e4]
   ·have e4:¬ i < n+1:=by omega
    simp [e2,e4]
theorem pile_tiles (f:Nat→Int):∀ n,n≤27→∀ c∈pileL f n,tileB c=true
 | 0,_,c,h=>by simp [pileL_zero] at h
 | n+1,hn,c,h=>by
  rw [pileL_succ,List.mem_append] at h
  rcases h with h | h
  ·exact pile_tiles f n (by omega) c h
  ·rw [(List.mem_replicate.1 h).2]
   rw [tileB_nat,tileC_nat (by omega)]
   by_cases e:n=0
   ·rw [if_pos e];rfl
   ·rw [if_neg e,Bool.or_eq_true]
    refine .inr ?_
    unfold smallB
    rw [Bool.and_eq_true,decide_eq_true_eq,decide_eq_true_eq]
    omega
theorem pile_len (f:Nat→Int) (B:Nat) (hf:∀ k,f k≤B):∀ n,(pileL f n).length≤n * B
 | 0=>by rw [pileL_zero];simp
 | n+1=>by
  rw [pileL_succ,List.length_append,List.length_replicate]
  have:=pile_len f B hf n
  have:=hf n
  have e:(n+1) * B=n * B+B:=Nat.succ_mul n B
  omega

/-! ### Whether a pile contains another -/
def SortedT (l:List UInt8):Prop:=l.Pairwise fun x y=>x.toNat≤y.toNat
/-- whether the tiles of one list are among those of another -/
def hasT (a b:List UInt8):Bool:=(List.range 27).all fun k=>decide (cntT b k≤cntT a k)
/-- tiles in ascending order, and no more than a pile has -/
def pileOk (l:List UInt8):Bool:=decide (∀ j,j < l.length→tileB (l.getD j 0)=true) && (decide (∀ j,j < l.length→0 < j→(l.getD (j - 1) 0).toNat≤(l.getD j 0).toNat) && decide (l.length≤120))
theorem u8_at {l:List UInt8} {j:Nat} (h:j < l.length):l.getD j 0=l[j]:=by simp [h]
/-- what a walk along a string has found so far -/
def PU (l:List UInt8) (k:Nat):Prop:=(∀ j,j < k→tileB (l.getD j 0)=true)∧(∀ j,j < k→0 < j→(l.getD (j - 1) 0).toNat≤(l.getD j 0).toNat)
theorem PU.zero (l:List UInt8):PU l 0:=⟨fun j h=>by omega,fun j h=>by omega⟩
theorem u8_byte {s:ByteArray} {k:Nat} (h:k < s.size):s.data.toList.getD k 0=s[k]:=by
 rw [u8_at (by simpa using h)]
 rfl
theorem PU.first {s:ByteArray} (h:0 < s.size) (ht:tileI (s[0].toNat:Int)=true):PU s.data.toList 1:=by
 refine ⟨fun j hj=>?_,fun j hj h0=>by omega⟩
 obtain rfl:j=0:=by omega
 rw [u8_byte h]
 exact ht
theorem PU.step {s:ByteArray} {k:Nat} (h:PU s.data.toList (k+1)) (hk:k+1 < s.size) (ht:tileI (s[k+1].toNat:Int)=true) (ho:¬ (s[k+1].toNat:Int) < (s[k].toNat:Int)):PU s.data.toList (k+1+1):=by
 refine ⟨fun j hj=>?_,fun j hj h0=>?_⟩
 ·by_cases e:j=k+1
  ·subst e;rw [u8_byte hk];exact ht
  ·exact h.1 j (by omega)
 ·by_cases e:j=k+1
  ·subst e
   rw [Nat.add_sub_cancel,u8_byte hk,u8_byte (by omega)]
   omega
  ·exact h.2 j (by omega) h0
def rackOk (l:List UInt8):Bool:=pileOk l && decide (l.length≤7)
theorem sort_ins {R:List UInt8} {c:UInt8} {k:Nat} (hs:SortedT R) (hk:k≤R.length) (hd:∀ x∈R.drop k,c.toNat < x.toNat) (hl:∀ (h:0 < k),(R[k - 1]'(by omega)).toNat≤c.toNat):SortedT (R.take k++c :: R.drop k):=by
 have h0:SortedT (R.take k++R.drop k):=by rw [List.take_append_drop];exact hs
 unfold SortedT at h0 ⊢
 rw [List.pairwise_append] at h0 ⊢
 refine ⟨h0.1,List.pairwise_cons.2 ⟨fun x hx=>Nat.le_of_lt (hd x hx),h0.2.1⟩,fun x hx y hy=>?_⟩
 rcases List.mem_cons.1 hy with rfl | hy
 ·obtain ⟨i,hi,rfl⟩:=List.getElem_of_mem hx
  have hik:i < k:=by rw [List.length_take] at hi;omega
  rw [List.getElem_take]
  have h1:=hl (by omega)
  by_cases e:i=k - 1
  ·subst e;exact h1
  ·have:=(List.pairwise_iff_getElem.1 hs) i (k - 1) (by omega) (by omega) (by omega)
   omega
 ·exact h0.2.2 x hx y hy
theorem perm_ins {R L:List UInt8} {c:UInt8} {k:Nat} (h:R.Perm L):(R.take k++c :: R.drop k).Perm (L++[c]):=by
 have h1:(R.take k++c :: R.drop k).Perm (c :: (R.take k++R.drop k)):=List.perm_middle
 rw [List.take_append_drop] at h1
 exact (h1.trans (h.cons c)).trans (List.perm_append_singleton c L).symm
theorem drop_ins {R:List UInt8} {k:Nat} (hk:k < R.length) (P:UInt8→Prop) (h:∀ x∈R.drop (k+1),P x) (h2:P R[k]):∀ x∈R.drop k,P x:=by
 rw [List.drop_eq_getElem_cons hk]
 intro x hx
 rcases List.mem_cons.1 hx with rfl | hx
 ·exact h2
 ·exact h x hx
theorem cnt_perm {a b:List UInt8} (h:a.Perm b) (k:Nat):cntT a k=cntT b k:=h.count_eq _
end Go.Proofs.YtgphkffbbmmmmaaGreatDoor

namespace Go.Proofs.YtgphkffbbmmmmaaGreatDoor
open Go.ChangeShapes Go.WideShapes Go.ChangeAt Go.RowKit Go.Sort

def cntI (l:List UInt8):Nat→Int:=fun k=>(cntT l k:Int)
theorem tileC_mono {j k:Nat} (h:j≤k) (hk:k < 27):(tileC j).toNat≤(tileC k).toNat:=by
 rw [tileC_nat (by omega),tileC_nat hk]
 split<;>split<;>omega
theorem pile_mem (f:Nat→Int):∀ n,∀ c∈pileL f n,∃ k,k < n∧c=tileC k
 | 0,c,h=>by simp [pileL_zero] at h
 | n+1,c,h=>by
  rw [pileL_succ,List.mem_append] at h
  rcases h with h | h
  ·obtain ⟨k,h1,h2⟩:=pile_mem f n c h
   exact ⟨k,by omega,h2⟩
  ·exact ⟨n,by omega,(List.mem_replicate.1 h).2⟩
theorem sorted_rep (n:Nat) (c:UInt8):SortedT (List.replicate n c):=by
 unfold SortedT
 rw [List.pairwise_iff_getElem]
 intro i j hi hj _
 rw [List.getElem_replicate,List.getElem_replicate]
 exact Nat.le_refl _
theorem pile_sort (f:Nat→Int):∀ n,n≤27→SortedT (pileL f n)
 | 0,_=>by rw [pileL_zero];exact List.Pairwise.nil
 | n+1,hn=>by
  rw [pileL_succ]
  unfold SortedT
  rw [List.pairwise_append]
  refine ⟨pile_sort f n (by omega),sorted_rep _ _,fun x hx y hy=>?_⟩
  obtain ⟨k,h1,rfl⟩:=pile_mem f n x hx
  rw [(List.mem_replicate.1 hy).2]
  exact tileC_mono (by omega) (by omega)
theorem pile_perm {l:List UInt8} (h:l.all tileB=true):(pileL (cntI l) 27).Perm l:=by
 rw [List.perm_iff_count]
 intro c
 cases hc:tileB c with
 | true =>
  obtain ⟨k,hk,_,rfl⟩:=tile_num hc
  have h1:=pile_cnt (cntI l) hk 27 (Nat.le_refl _)
  rw [if_pos hk] at h1
  unfold cntT at h1
  rw [h1]
  unfold cntI cntT
  exact Int.toNat_natCast _
 | false =>
  have h1:c ∉ pileL (cntI l) 27:=fun hm=>by
   have:=pile_tiles (cntI l) 27 (Nat.le_refl _) c hm
   rw [hc] at this
   cases this
  have h2:c ∉ l:=fun hm=>by
   have:=(List.all_eq_true.1 h) c hm
   rw [hc] at this
   cases this
  rw [List.count_eq_zero.2 h1,List.count_eq_zero.2 h2]
theorem sorted_eq:∀ {a b:List UInt8},SortedT a→SortedT b→a.Perm b→a=b
 | [],b,_,_,h=>by rw [List.nil_perm.1 h]
 | x :: a,[],_,_,h=>by cases h.eq_nil
 | x :: a,y :: b,ha,hb,h=>by
  have ha1:=List.pairwise_cons.1 ha
  have hb1:=List.pairwise_cons.1 hb
  have e:x=y:=by
   have hx:x∈y :: b:=h.mem_iff.1 List.mem_cons_self
   have hy:y∈x :: a:=h.mem_iff.2 List.mem_cons_self
   rcases List.mem_cons.1 hx with e | hx
   ·exact e
   rcases List.mem_cons.1 hy with e | hy
   ·exact e.symm
   have:=ha1.1 y hy
   have:=hb1.1 x hx
   exact UInt8.toNat_inj.1 (by omega)
  subst e
  rw [sorted_eq ha1.2 hb1.2 (List.Perm.cons_inv h)]
/-- the pile of a list of tiles -/
def srtL (l:List UInt8):List UInt8:=pileL (cntI l) 27
theorem srt_perm {l:List UInt8} (h:l.all tileB=true):(srtL l).Perm l:=pile_perm h
theorem srt_sort (l:List UInt8):SortedT (srtL l):=pile_sort _ 27 (Nat.le_refl _)
theorem srt_eq {l R:List UInt8} (h:l.all tileB=true) (hs:SortedT R) (hp:R.Perm l):R=srtL l :=
 sorted_eq hs (srt_sort l) (hp.trans (srt_perm h).symm)
theorem srt_len {l:List UInt8} (h:l.all tileB=true):(srtL l).length=l.length:=(srt_perm h).length_eq
def tlC (c:UInt8):UInt8:=if capB (c.toNat:Int) then 63 else c
end Go.Proofs.YtgphkffbbmmmmaaGreatDoor
