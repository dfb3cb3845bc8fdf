/- Plain lemmas on decimal numerals: what the program reads back and what the reference reads · Plain lemmas: a text taken apart at a byte. No program in sight. · Plain: the shuffling of a bag. No program in sight. -/
import Derived.Lib.ItoaMem
import Derived.Lib.AtoiTie
import Derived.Lib.ParseIntBTie
import Derived.Lib.SplitLaws
import Derived.Lib.IndexBytes
namespace Go.Proofs.YtgphkffbbmmmmaaGreatDoor
open Go.Lib

/-- a text without the sign at its front -/
def dropMinus:List UInt8→List UInt8
 | []=>[]
 | c :: r=>if c=45 then r else c :: r
/-- the number with a decimal form -/
def readAny (l:List UInt8):Option Int:=match parseIntB 64 l with
 | .ok n=>if itoa n=l then some n else none
 | _=>none
def readDec (l:List UInt8):Option Int:=if 18 < (dropMinus l).length then none else readAny l
/-- the same, digit by digit -/
def specNum (l:List UInt8):Option Int :=
 if (dropMinus l).length < 1∨18 < (dropMinus l).length then none
 else match decFrom 0 (dropMinus l) with
  | none=>none
  | some m=>if itoa (if (dropMinus l).length < l.length then -(m:Int) else m)=l then some (if (dropMinus l).length < l.length then -(m:Int) else m) else none
theorem decDigits_digit (u:Nat):∀ c∈decDigits u,48≤c.toNat∧c.toNat≤57:=by
 induction u using Nat.strongRecOn with
 | _ u ih =>
  intro c hc
  have e:∀ n,n < 10→(UInt8.ofNat (48+n)).toNat=48+n:=fun n hn=>by
   rw [UInt8.toNat_ofNat'];omega
  by_cases h:u < 10
  ·rw [decDigits,dif_pos h] at hc
   rw [List.mem_singleton.1 hc,e u h];omega
  ·rw [decDigits,dif_neg h] at hc
   rcases List.mem_append.1 hc with hc | hc
   ·exact ih (u / 10) (by omega) c hc
   ·rw [List.mem_singleton.1 hc,e _ (by omega)];omega
theorem itoa_plus (n:Int) (r:List UInt8):itoa n≠43 :: r:=by
 intro h
 unfold itoa at h
 split at h
 ·injection h with h _;exact absurd h (by decide)
 ·have:=decDigits_digit n.toNat 43 (by rw [h];exact List.mem_cons_self ..)
  exact absurd this (by decide)
theorem of_option {o:Option Int} {l:List UInt8}:(match NumEnd.ofOption o with | .ok n=>if itoa n=l then some n else none | _=>none)=(match o with | none=>none | some n=>if itoa n=l then some n else none):=by
 cases o<;>rfl
theorem readDec_eq (l:List UInt8):readDec l=specNum l:=by
 unfold readDec specNum readAny
 rw [parseIntB_64]
 cases l with
 | nil=>rfl
 | cons c r =>
  by_cases h45:c=45
  ·subst h45
   simp only [dropMinus,if_true]
   by_cases hl:18 < r.length
   ·rw [if_pos hl,if_pos (.inr hl)]
   ·rw [if_neg hl,atoiAll_minus,signed_short (by omega),of_option]
    by_cases h0:r.length < 1
    ·rw [if_pos (.inl h0)]
     have:r=[]:=List.length_eq_zero_iff.1 (by omega)
     subst this
     rfl
    ·rw [if_neg (by omega)]
     have hne:r.isEmpty=false:=by cases r with | nil=>simp at h0 | cons a b=>rfl
     simp only [decNat,hne,Bool.false_eq_true,if_false,List.length_cons]
     cases decFrom 0 r with
     | none=>rfl
     | some m=>simp only [Option.map_some,Nat.lt_succ_self,if_true]
  ·simp only [dropMinus,if_neg h45]
   by_cases hl:18 < (c :: r).length
   ·rw [if_pos hl,if_pos (.inr hl)]
   ·rw [if_neg hl,if_neg (by simp at hl ⊢;omega)]
    by_cases h43:c=43
    ·subst h43
     have e:decFrom 0 (43 :: r)=none:=rfl
     rw [e]
     split
     ·rw [if_neg (itoa_plus _ _)]
     ·rfl
    ·rw [atoiAll_plain c r (fun h=>h43 (UInt8.toNat_inj.1 h)) (fun h=>h45 (UInt8.toNat_inj.1 h)),signless_short (by omega),of_option]
     simp only [decNat,List.isEmpty_cons,Bool.false_eq_true,if_false,Nat.lt_irrefl]
     cases decFrom 0 (c :: r)<;>rfl
/-! What is written is read back. -/
end Go.Proofs.YtgphkffbbmmmmaaGreatDoor
namespace Go.Proofs.YtgphkffbbmmmmaaGreatDoor
open Go.Lib

/-- the parts of a text between bytes -/
def splitL (c:UInt8):List UInt8→List (List UInt8)
 | []=>[[]]
 | b :: l=>if b=c then [] :: splitL c l else match splitL c l with
  | []=>[[b]]
  | x :: xs=>(b :: x) :: xs
theorem splitL_ne (c:UInt8) (l:List UInt8):splitL c l≠[]:=by
 cases l with
 | nil=>simp [splitL]
 | cons b l =>
  unfold splitL
  split
  ·simp
  ·split<;>simp
theorem splitL_app {c:UInt8} {p:List UInt8} (r:List UInt8) (h:c ∉ p):splitL c (p++c :: r)=p :: splitL c r:=by
 induction p with
 | nil=>simp [splitL]
 | cons b p ih =>
  have hb:b≠c:=fun e=>h (by simp [e])
  rw [List.cons_append,splitL,if_neg hb,ih (fun hm=>h (List.mem_cons_of_mem _ hm))]
theorem splitL_none {c:UInt8} {l:List UInt8} (h:c ∉ l):splitL c l=[l]:=by
 induction l with
 | nil=>rfl
 | cons b p ih =>
  have hb:b≠c:=fun e=>h (by simp [e])
  rw [splitL,if_neg hb,ih (fun hm=>h (List.mem_cons_of_mem _ hm))]
theorem splitL_len (c:UInt8) (l:List UInt8):(splitL c l).length=l.count c+1:=by
 induction l with
 | nil=>rfl
 | cons b l ih =>
  unfold splitL
  by_cases hb:b=c
  ·subst hb
   rw [if_pos rfl,List.length_cons,ih,List.count_cons_self]
  ·rw [if_neg hb,List.count_cons_of_ne hb]
   split
   ·rename_i h;exact absurd h (splitL_ne c l)
   ·rename_i x xs h
    rw [h] at ih
    simpa using ih
theorem notMem_of {l:List UInt8} {c:UInt8} (h:∀ k:Nat,l[k]?≠some c):c ∉ l:=by
 intro hm
 obtain ⟨k,hk,e⟩:=List.getElem_of_mem hm
 exact h k (by rw [List.getElem?_eq_getElem hk,e])
/-- What the library's Split gives. -/
theorem split_tie (c:UInt8):∀ (k:Nat) (s:ByteArray),countB s ⟨#[c]⟩=k→(splitB ⟨#[c]⟩ 0 k s).map (·.data.toList)=splitL c s.data.toList:=by
 intro k
 induction k with
 | zero =>
  intro s h
  have hc:c ∉ s.data.toList:=by
   have:s.data.toList.count c=0:=by rw [← count_one];exact h
   exact List.count_eq_zero.1 this
  rw [splitL_none hc]
  rfl
 | succ k ih =>
  intro s h
  have hi:indexB s ⟨#[c]⟩=indexByte s.data.toList c:=index_one _ _
  have hne:indexB s ⟨#[c]⟩≠-1:=fun e=>by rw [countB_miss _ _ e] at h;omega
  have hge:=indexByte_ge s.data.toList c
  obtain ⟨i,hii⟩:∃ i:Nat,indexB s ⟨#[c]⟩=i:=⟨(indexB s ⟨#[c]⟩).toNat,by omega⟩
  have hcount:=countB_hit s ⟨#[c]⟩ i (Nat.le_refl _) hii
  rw [splitB_hit _ _ _ _ _ hii]
  obtain ⟨h1,h2⟩:=indexByte_some (hi.symm.trans hii)
  have hlt:i < s.data.toList.length:=(List.getElem?_eq_some_iff.1 h1).1
  have hsp:s.data.toList=s.data.toList.take i++c :: s.data.toList.drop (i+1):=by
   have:=List.take_append_drop i s.data.toList
   rw [List.drop_eq_getElem_cons hlt,(List.getElem?_eq_some_iff.1 h1).2] at this
   exact this.symm
  have hnm:c ∉ s.data.toList.take i:=notMem_of fun k e=>by
   by_cases hk:k < i
   ·rw [List.getElem?_take_of_lt hk] at e
    exact h2 k hk e
   ·rw [List.getElem?_take_eq_none (by omega)] at e
    cases e
  have e1:(s.extract 0 (i+0)).data.toList=s.data.toList.take i:=by simp
  have hsz:(⟨#[c]⟩:ByteArray).size=1:=rfl
  have e2:(s.extract (i+(⟨#[c]⟩:ByteArray).size) s.size).data.toList=s.data.toList.drop (i+1):=by rw [hsz,extract_to_end]
  rw [List.map_cons,ih _ (by omega),e1,e2]
  conv=>rhs;rw [hsp]
  rw [splitL_app _ hnm]
end Go.Proofs.YtgphkffbbmmmmaaGreatDoor
namespace Go.Proofs.YtgphkffbbmmmmaaGreatDoor

/-- what the bag's mixer makes of its number -/
def lcg (x:Nat):Nat:=(x * 1103515245+12345) % 2147483648
def swapL (l:List UInt8) (i k:Nat):List UInt8:=(l.set i (l.getD k 0)).set k (l.getD i 0)
theorem swapL_len (l:List UInt8) (i k:Nat):(swapL l i k).length=l.length:=by simp [swapL]
/-- the steps from i down to 1 -/
def shufL:Nat→Nat→List UInt8→List UInt8
 | 0,_,l=>l
 | i+1,x,l=>shufL i (lcg x) (swapL l (i+1) (lcg x / 65536 % (i+2)))
def shuf (seed:Nat) (l:List UInt8):List UInt8:=shufL (l.length - 1) seed l
theorem swapL_get (l:List UInt8) {i k:Nat} (hi:i < l.length) (hk:k < l.length):swapL l i k=(l.set i l[k]).set k l[i]:=by
 have e1:l.getD i 0=l[i]:=by rw [List.getD_eq_getElem?_getD,List.getElem?_eq_getElem hi];rfl
 have e2:l.getD k 0=l[k]:=by rw [List.getD_eq_getElem?_getD,List.getElem?_eq_getElem hk];rfl
 unfold swapL
 rw [e1,e2]
theorem swapL_perm {l:List UInt8} {i k:Nat} (hi:i < l.length) (hk:k < l.length):(swapL l i k).Perm l:=by
 rw [swapL_get l hi hk]
 exact List.set_set_perm hi hk
theorem shufL_perm:∀ (i x:Nat) (l:List UInt8),i < l.length→(shufL i x l).Perm l
 | 0,_,_,_=>List.Perm.refl _
 | i+1,x,l,hi=>by
  have hk:lcg x / 65536 % (i+2) < l.length:=Nat.lt_of_lt_of_le (Nat.mod_lt _ (by omega)) (by omega)
  exact (shufL_perm i (lcg x) _ (by rw [swapL_len];omega)).trans (swapL_perm hi hk)
theorem shuf_perm (x:Nat) (l:List UInt8):(shuf x l).Perm l:=by
 unfold shuf
 cases l with
 | nil=>exact List.Perm.refl _
 | cons a l=>exact shufL_perm _ _ _ (by simp)
theorem lcg_lt (x:Nat):lcg x < 2147483648:=Nat.mod_lt _ (by decide)
theorem shufL_next (i x:Nat) (l:List UInt8):shufL (i+1) x l=shufL i (lcg x) (swapL l (i+1) (lcg x / 65536 % (i+2))):=rfl
theorem shufL_pos {i:Nat} (x:Nat) (l:List UInt8) (h:0 < i):shufL i x l=shufL (i - 1) (lcg x) (swapL l i (lcg x / 65536 % (i+1))):=by
 obtain ⟨j,rfl⟩:∃ j,i=j+1:=⟨i - 1,by omega⟩
 rw [shufL_next,Nat.add_sub_cancel]
theorem shufL_zero (x:Nat) (l:List UInt8):shufL 0 x l=l:=rfl
end Go.Proofs.YtgphkffbbmmmmaaGreatDoor
