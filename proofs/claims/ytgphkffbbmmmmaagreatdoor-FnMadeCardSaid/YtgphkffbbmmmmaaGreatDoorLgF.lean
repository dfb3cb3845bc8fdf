/- Contracts: the reference's taking of tiles from a pile, the tiles of letters, the letters  · Plain definitions and lemmas: the letters on a board, blank boards, plays that touch what  · Contract: the program's words that a play forms. For valid plays on valid boards. · Contracts: the reference's words that a play forms and a lexicon does not have; its WrongW · Contracts: the reference's codes of plays: whether a down play is an across play too, the  -/
import Derived.Test.YtgphkffbbmmmmaaGreatDoorLgA
import Derived.Test.YtgphkffbbmmmmaaGreatDoorPlaD
import Derived.Test.YtgphkffbbmmmmaaGreatDoorScE
import Derived.Test.YtgphkffbbmmmmaaGreatDoorPlbF
import Derived.Lib.Replace
import Derived.Test.YtgphkffbbmmmmaaGreatDoorLex
set_option maxRecDepth 100000
set_option maxHeartbeats 8000000
namespace Go.Proofs.YtgphkffbbmmmmaaGreatDoor
open Go.ChangeShapes Go.WideShapes Go.ChangeAt Go.RowKit Go.Sort

/-! ### Plain -/
theorem takeK_snoc (b l:List UInt8) (x:UInt8):takeK b (l++[x])=tkN b (takeK b l) x:=by
 unfold takeK
 rw [List.foldl_append]
 rfl
theorem takeK_le (b l:List UInt8):takeK b l≤b.length:=(tk_step b l 0 (Nat.zero_le _)).2
theorem takeK_at {a b:ByteArray} {i:Nat} (hi:i < a.size):takeK b.data.toList (a.data.toList.take (i+1))=tkN b.data.toList (takeK b.data.toList (a.data.toList.take i)) a[i]:=by
 rw [show a.data.toList.take (i+1)=a.data.toList.take i++[a[i]] from List.take_succ_eq_append_getElem (by simpa using hi),takeK_snoc]
theorem tkN_yes {b:ByteArray} {j:Nat} {x:UInt8} (hj:j < b.size) (h:(b[j].toNat:Int)=(x.toNat:Int)):tkN b.data.toList j x=j+1:=by
 unfold tkN
 have hl:j < b.data.toList.length:=by simpa using hj
 rw [if_pos]
 rw [List.getElem?_eq_getElem hl]
 exact congrArg some (UInt8.toNat_inj.1 (by rw [bytes_get b j hj];omega))
theorem tkN_no {b:ByteArray} {j:Nat} {x:UInt8} (hj:j < b.size) (h:¬ (b[j].toNat:Int)=(x.toNat:Int)):tkN b.data.toList j x=j:=by
 unfold tkN
 have hl:j < b.data.toList.length:=by simpa using hj
 rw [if_neg]
 rw [List.getElem?_eq_getElem hl]
 intro e
 have:=Option.some.inj e
 rw [bytes_get b j hj] at this
 exact h (by rw [this])
theorem tkN_end {b:ByteArray} {j:Nat} {x:UInt8} (hj:¬ j < b.size):tkN b.data.toList j x=j:=by
 unfold tkN
 rw [if_neg]
 rw [List.getElem?_eq_none (by simpa using Nat.le_of_not_lt hj)]
 intro e
 cases e
/-- what taking leaves, with the place in the pile that is taken -/
def tkS (b:List UInt8) (s:Nat × List UInt8) (c:UInt8):Nat × List UInt8:=if b[s.1]?=some c then (s.1+1,s.2) else (s.1,s.2++[c])
def takeS (b a:List UInt8):Nat × List UInt8:=a.foldl (tkS b) (0,[])
def takeR (b a:List UInt8):List UInt8:=(takeS b a).2
theorem takeS_snoc (b l:List UInt8) (x:UInt8):takeS b (l++[x])=tkS b (takeS b l) x:=by
 unfold takeS
 rw [List.foldl_append]
 rfl
theorem takeS_fst (b:List UInt8):∀ (a:List UInt8) (k:Nat) (o:List UInt8),(a.foldl (tkS b) (k,o)).1=a.foldl (tkN b) k
 | [],_,_=>rfl
 | c :: a,k,o=>by
  rw [List.foldl_cons,List.foldl_cons]
  unfold tkS tkN
  by_cases h:b[k]?=some c
  ·rw [if_pos h,if_pos h];exact takeS_fst b a (k+1) o
  ·rw [if_neg h,if_neg h];exact takeS_fst b a k (o++[c])
theorem takeS_K (b a:List UInt8):(takeS b a).1=takeK b a:=takeS_fst b a 0 []
theorem takeR_at {a b:ByteArray} {i:Nat} (hi:i < a.size):takeR b.data.toList (a.data.toList.take (i+1))=if tkN b.data.toList (takeK b.data.toList (a.data.toList.take i)) a[i]=takeK b.data.toList (a.data.toList.take i) then takeR b.data.toList (a.data.toList.take i)++[a[i]] else takeR b.data.toList (a.data.toList.take i):=by
 unfold takeR
 rw [show a.data.toList.take (i+1)=a.data.toList.take i++[a[i]] from List.take_succ_eq_append_getElem (by simpa using hi),takeS_snoc,← takeS_K]
 unfold tkS tkN
 by_cases h:b.data.toList[(takeS b.data.toList (a.data.toList.take i)).1]?=some a[i]
 ·rw [if_pos h,if_pos h,if_neg (by omega)]
 ·rw [if_neg h,if_neg h,if_pos rfl]
theorem int_eq_nat (n m:Nat):((n:Int) == (m:Int))=decide (n=m):=by
 rw [Bool.eq_iff_iff,beq_iff_eq,decide_eq_true_eq]
 omega
theorem l03TakeF_any (a b:ByteArray) (w:World) (ha:a.size≤1048576) (hbs:b.size≤1048576) :
  Calls Tryz.prog 172 #[.string a,.string b] w fun e w'=>e=.returned (.tuple #[.string (mkB (takeR b.data.toList a.data.toList)),.bool (decide (takeK b.data.toList a.data.toList=b.data.toList.length))])∧Below w.heap.size w w':=by
 obtain ⟨i0,hi0,hi1,hi2,hi3⟩:=info_parts infoByte
 have hd0:Below w.heap.size w (w.alloc (.cells #[] 5)):=(Below.refl _ _).alloc (Nat.le_refl _) _
 have HO:Hid ((w.alloc (.cells #[] 5)).ownsRow w.heap.size 5 1 (.slice (some ⟨w.heap.size,0,none⟩) 0 0) 0 (([]:List UInt8).flatMap U8.enc)):=Lh (
  World.ownsRow_made (base:=w.heap.size) (e:=5) (size:=1) w #[] 0 (Nat.le_refl _) (by unfold maxLen;omega) rfl)
 have hb:=hd0
 clear hd0
 obtain ⟨kt,hkt⟩:∃ kt:Nat→Nat,∀ i,kt i=takeK b.data.toList (a.data.toList.take i):=⟨_,fun _=>rfl⟩
 have H0:Hid (kt 0=0):=Lh (by rw [hkt];rfl)
 obtain ⟨lt,hlt⟩:∃ lt:Nat→List UInt8,∀ i,lt i=takeR b.data.toList (a.data.toList.take i):=⟨_,fun _=>rfl⟩
 have HL0:Hid (lt 0=[]):=Lh (by rw [hlt];rfl)
 have HLT:Hid (∀ i (h:i < a.size),lt (i+1)=if kt (i+1)=kt i then lt i++[a[i]] else lt i):=Lh (fun i h=>by
  rw [hlt,hlt,hkt (i+1),takeK_at h,takeR_at h,← hkt i])
 have HLE:Hid (takeR b.data.toList a.data.toList=lt a.size):=Lh (by rw [hlt,List.take_of_length_le (by simp)])
 rw [HLE.out]
 clear hlt HLE
 have HLE:Hid (∀ i,kt i≤b.size):=Lh (fun i=>by rw [hkt];exact Nat.le_trans (takeK_le _ _) (by simp))
 have HY:Hid (∀ i (h:i < a.size) (h2:kt i < b.size),(b[kt i].toNat:Int)=(a[i].toNat:Int)→kt (i+1)=kt i+1):=Lh (fun i h h2 h3=>by
  rw [hkt (i+1),takeK_at h,← hkt i];exact tkN_yes h2 h3)
 have HNO:Hid (∀ i (h:i < a.size) (h2:kt i < b.size),¬ (b[kt i].toNat:Int)=(a[i].toNat:Int)→kt (i+1)=kt i):=Lh (fun i h h2 h3=>by
  rw [hkt (i+1),takeK_at h,← hkt i];exact tkN_no h2 h3)
 have HE:Hid (∀ i (h:i < a.size) (h2:¬ kt i < b.size),kt (i+1)=kt i):=Lh (fun i h h2=>by
  rw [hkt (i+1),takeK_at h,← hkt i];exact tkN_end h2)
 have HEND:Hid (decide (takeK b.data.toList a.data.toList=b.data.toList.length)=(((kt a.size:Nat):Int) == (b.size:Int))):=Lh (by
  rw [int_eq_nat,hkt,List.take_of_length_le (by simp)]
  simp)
 generalize decide (takeK b.data.toList a.data.toList=b.data.toList.length)=ans at *
 clear hkt
 go_enter Tryz.func172,Tryz.ntmps172
 go_wp2_with fail
 go_loopw [6,7,8] (fun ov kv iv wr=>∃ (i m g1 cap:Nat) (L:List UInt8),i≤a.size∧m≤i∧iv=.int .i64 i∧kv=.int .i64 (kt i:Nat)∧ov=.slice (some ⟨g1,0,none⟩) m cap∧Hid (L.length=m)∧Hid (L=lt i)∧Hid (wr.ownsRow w.heap.size 5 1 (.slice (some ⟨g1,0,none⟩) m cap) m (L.flatMap U8.enc))∧Below w.heap.size w wr) (fun _ _ iv _=>a.size - (intOf iv).toNat)
 case atStart=>exact ⟨0,0,_,0,[],Nat.zero_le _,Nat.le_refl _,rfl,by rw [H0.out];rfl,rfl,Lh rfl,Lh HL0.out.symm,HO,hb⟩
 case round =>
  clear HO hb H0 HL0
  obtain ⟨i,m,g1,cap,L,hi,hm,rfl,rfl,rfl,HLM,HLL,HO,hb⟩:=hrel
  by_cases hlt:i < a.size
  ·have hle:=HLE.out i
   have HLI:=Lh (HLT.out i hlt)
   have HYi:=Lh (HY.out i hlt)
   have HNi:=Lh (HNO.out i hlt)
   have HEi:=Lh (HE.out i hlt)
   clear HY HNO HE HLE HLT
   have HKN:Hid (∀ n,kt (i+1)=n→((kt (i+1):Nat):Int)=(n:Int)):=Lh (fun n h=>by rw [h])
   generalize hj:kt i=j at *
   by_cases hj2:j < b.size
   ·by_cases he:(b[j].toNat:Int)=(a[i].toNat:Int)
    ·have HN:=Lh (HYi.out hj2 he)
     have e1:((b[j].toNat:Int) == (a[i].toNat:Int))=true:=beq_iff_eq.2 he
     clear HYi HNi HEi he
     go_wp2_with fail
     go_quiet (fail)
     have hd:Below wr.heap.size wr (wr.drewN nq):=(Drew.drewN (Drew.refl _) nq).below _
     replace hb:=hb.trans (hd.mono hb.size)
     replace HO:=Lh (own_below HO.out hd)
     generalize wr.drewN nq=wa at *
     go_wp2
     go_roundw
     case rel=>exact ⟨i+1,m,g1,cap,L,by omega,by omega,by go_num,by rw [HN.out];go_num,rfl,HLM,Lh (by rw [HLI.out,HN.out,if_neg (by omega)];exact HLL.out),HO,hb⟩
     case measure=>simp [intOf];omega
    ·have HN:=Lh (HNi.out hj2 he)
     have e1:((b[j].toNat:Int) == (a[i].toNat:Int))=false:=beq_eq_false_iff_ne.2 he
     clear HYi HNi HEi
     go_wp2_with fail
     go_quiet (fail)
     have hd:Below wr.heap.size wr (wr.drewN nq):=(Drew.drewN (Drew.refl _) nq).below _
     replace hb:=hb.trans (hd.mono hb.size)
     replace HO:=Lh (own_below HO.out hd)
     generalize wr.drewN nq=wa at *
     clear hd e1 he
     have hx:Below wa.heap.size wa (wa.alloc (.cells #[.int .u8 ((a[i].toNat:Int))] 5)):=(Below.refl _ _).alloc (Nat.le_refl _) _
     have KN:=Lh (new_byte wa (a[i]) 5)
     replace HO:=Lh (own_below HO.out hx)
     have hz2:=hb.size
     replace hb:=hb.trans (hx.mono hb.size)
     clear hx
     go_wp2_with (at_builtin;go_must (refine wpList_append_lies _ rfl (.tmp 31) (.tmp 35) 49 rfl w.heap.size 5 i0 _ 1 1 Tryz.underlying49 hi0 hi1 hi2 hi3 rfl (by decide) _ m (L.flatMap U8.enc) (by rfl) HO.out ⟨wa.heap.size,0,none⟩ 1 1 (U8.enc (a[i])) (by rfl) rfl KN.out (u8_one1 (a[i])) (by decide) ?c1 ?c2 ?c3 _ rfl ?_))
     case c1=>unfold maxLen;omega
     case c2=>omega
     case c3=>(first | omega | (simp only [World.size_alloc];omega))
     intro g7 cap7 w7 hown hgr hwh hlt7
     replace hb:=hb.grown hgr hb.size (fun q e=>by have:=(HO.out.lt q e).1;omega)
     replace HO:Hid (w7.ownsRow w.heap.size 5 1 (.slice (some ⟨g7,0,none⟩) (m+1) cap7) (m+1) ((L++[a[i]]).flatMap U8.enc)):=Lh (by rw [snoc_flat U8.enc];exact hown)
     clear hown hgr hwh KN hlt7 hz2
     go_wp2
     go_roundw
     case rel=>exact ⟨i+1,m+1,g7,cap7,L++[a[i]],by omega,by omega,by go_num,by rw [HN.out],rfl,Lh (by rw [List.length_append,HLM.out];rfl),Lh (by rw [HLI.out,HN.out,if_pos rfl,HLL.out]),HO,hb⟩
     case measure=>simp [intOf];omega
   ·have HN:=Lh (HEi.out hj2)
    clear HYi HNi HEi
    go_wp2_with fail
    go_quiet (fail)
    have hd:Below wr.heap.size wr (wr.drewN nq):=(Drew.drewN (Drew.refl _) nq).below _
    replace hb:=hb.trans (hd.mono hb.size)
    replace HO:=Lh (own_below HO.out hd)
    generalize wr.drewN nq=wa at *
    clear hd
    have hx:Below wa.heap.size wa (wa.alloc (.cells #[.int .u8 ((a[i].toNat:Int))] 5)):=(Below.refl _ _).alloc (Nat.le_refl _) _
    have KN:=Lh (new_byte wa (a[i]) 5)
    replace HO:=Lh (own_below HO.out hx)
    have hz2:=hb.size
    replace hb:=hb.trans (hx.mono hb.size)
    clear hx
    go_wp2_with (at_builtin;go_must (refine wpList_append_lies _ rfl (.tmp 31) (.tmp 35) 49 rfl w.heap.size 5 i0 _ 1 1 Tryz.underlying49 hi0 hi1 hi2 hi3 rfl (by decide) _ m (L.flatMap U8.enc) (by rfl) HO.out ⟨wa.heap.size,0,none⟩ 1 1 (U8.enc (a[i])) (by rfl) rfl KN.out (u8_one1 (a[i])) (by decide) ?c1 ?c2 ?c3 _ rfl ?_))
    case c1=>unfold maxLen;omega
    case c2=>omega
    case c3=>(first | omega | (simp only [World.size_alloc];omega))
    intro g7 cap7 w7 hown hgr hwh hlt7
    replace hb:=hb.grown hgr hb.size (fun q e=>by have:=(HO.out.lt q e).1;omega)
    replace HO:Hid (w7.ownsRow w.heap.size 5 1 (.slice (some ⟨g7,0,none⟩) (m+1) cap7) (m+1) ((L++[a[i]]).flatMap U8.enc)):=Lh (by rw [snoc_flat U8.enc];exact hown)
    clear hown hgr hwh KN hlt7 hz2
    go_wp2
    go_roundw
    case rel=>exact ⟨i+1,m+1,g7,cap7,L++[a[i]],by omega,by omega,by go_num,by rw [HN.out],rfl,Lh (by rw [List.length_append,HLM.out];rfl),Lh (by rw [HLI.out,HN.out,if_pos rfl,HLL.out]),HO,hb⟩
    case measure=>simp [intOf];omega
  ·obtain rfl:i=a.size:=by omega
   have hcv:=own_bytes HO.out HLM.out.symm
   have HLZ:=Lh HLL.out
   clear HO HY HNO HE HLE HLT HLL
   go_wp2
   go_ret2
   exact ⟨by rw [HEND.out,← HLZ.out];rfl,hb⟩
def tlK (L:List UInt8) (k:Nat):List UInt8:=(L.take k).map tlC++L.drop k
theorem tlK_zero (L:List UInt8):tlK L 0=L:=by simp [tlK]
theorem tlK_end {L:List UInt8} {k:Nat} (h:L.length≤k):tlK L k=L.map tlC:=by
 unfold tlK
 rw [List.take_of_length_le h,List.drop_eq_nil_of_le h,List.append_nil]
theorem tlK_len (L:List UInt8) (k:Nat):(tlK L k).length=L.length:=by
 unfold tlK
 rw [List.length_append,List.length_map,← List.length_append,List.take_append_drop]
theorem tlK_get {L:List UInt8} {k:Nat} (h:k < L.length) (h2:k < (tlK L k).length):(tlK L k)[k]=L[k]:=by
 have e:(tlK L k)[k]?=some L[k]:=by
  unfold tlK
  rw [List.getElem?_append_right (by simp;omega),List.getElem?_drop]
  have:k+(k - (List.map tlC (List.take k L)).length)=k:=by simp;omega
  rw [this,List.getElem?_eq_getElem h]
 rw [List.getElem?_eq_getElem h2] at e
 simpa using e
theorem tlK_succ {L:List UInt8} {k:Nat} (h:k < L.length):tlK L (k+1)=(tlK L k).set k (tlC L[k]):=by
 unfold tlK
 rw [List.take_succ_eq_append_getElem h,List.map_append,List.set_append_right _ _ (by simp;omega),List.length_map,List.length_take,Nat.min_eq_left (by omega),Nat.sub_self,List.drop_eq_getElem_cons h,List.set_cons_zero]
 simp
theorem tlK_same {L:List UInt8} {k:Nat} (h:k < L.length) (hc:tlC L[k]=L[k]):tlK L (k+1)=tlK L k:=by
 rw [tlK_succ h,hc]
 have h2:k < (tlK L k).length:=by rw [tlK_len];exact h
 rw [← tlK_get h h2,List.set_getElem_self]
theorem l03Tiles_any (s:ByteArray) (w:World) (hs:s.size≤1048576) :
  Calls Tryz.prog 92 #[.string s] w (SortPost w (s.data.toList.map tlC)):=by
 have hl:s.data.toList.length=s.size:=by simp
 have HL:=Lh hl
 obtain ⟨cp,w1,hcp,hcv,hr,hb⟩:=bytes_of s w
 have HR:Hid (RowB w1 w.heap.size (tlK s.data.toList 0)):=Lh (by rw [tlK_zero];exact hr)
 have HLN:=Lh (tlK_len s.data.toList)
 have HE:=Lh (fun k h=>tlK_end (L:=s.data.toList) (k:=k) h)
 have HSC:=Lh (fun k (h:k < s.size)=>tlK_succ (L:=s.data.toList) (k:=k) (by simpa using h))
 have HSM:=Lh (fun k (h:k < s.size)=>tlK_same (L:=s.data.toList) (k:=k) (by simpa using h))
 have HGT:=Lh (fun k (h:k < s.size)=>tlK_get (L:=s.data.toList) (k:=k) (by simpa using h))
 clear hr hl
 go_enter Tryz.func92,Tryz.ntmps92
 go_wp2_with fail
 clear hcv
 go_loopw [4] (fun i wr=>∃ k:Nat,k≤s.size∧i=.int .i64 k∧Hid (RowB wr w.heap.size (tlK s.data.toList k))∧Below w.heap.size w wr) (fun i _=>s.size - (intOf i).toNat)
 case atStart=>exact ⟨0,Nat.zero_le _,rfl,HR,hb⟩
 case round =>
  clear HR hb
  obtain ⟨k,hk,rfl,HR,hb⟩:=hrel
  by_cases hlt:k < s.size
  ·have hlk:k < (tlK s.data.toList k).length:=by rw [HLN.out,HL.out];exact hlt
   have c0:=HR.out.cell (i:=k) hlk
   have f0:=HR.out.free (i:=k) hlk
   rw [HGT.out k hlt hlk,bytes_get s k hlt] at c0
   cases hcap:capB (s[k].toNat:Int) with
   | true =>
    have hv:=tlC_cap hcap
    obtain ⟨o0,k0⟩:=HR.out.set k (tlC s[k])
    have HR2:Hid (RowB (wr.setCell ⟨w.heap.size,k,none⟩ (.int .u8 63)) w.heap.size (tlK s.data.toList (k+1))):=Lh (by
     rw [HSC.out k hlt,bytes_get s k hlt,← hv];exact o0)
    have hb2:Below w.heap.size w (wr.setCell ⟨w.heap.size,k,none⟩ (.int .u8 63)):=by
     rw [← hv]
     exact hb.grown k0 hb.size (fun q h=>by cases h;exact Nat.le_refl _)
    clear o0 k0 hv hlk
    go_wp2_with fail
    refine (l03Capital_any _ _).mono ?_
    rintro e w' ⟨rfl,rfl⟩
    rw [hcap]
    clear hcap HR hb
    go_wp2
    go_roundw
    case rel=>exact ⟨k+1,by omega,by go_num,HR2,hb2⟩
    case measure=>simp [intOf];omega
   | false =>
    have HR2:Hid (RowB wr w.heap.size (tlK s.data.toList (k+1))):=Lh (by rw [HSM.out k hlt (by rw [bytes_get s k hlt];exact tlC_not hcap)];exact HR.out)
    clear hlk
    go_wp2_with fail
    refine (l03Capital_any _ _).mono ?_
    rintro e w' ⟨rfl,rfl⟩
    rw [hcap]
    clear hcap HR
    go_wp2
    go_roundw
    case rel=>exact ⟨k+1,by omega,by go_num,HR2,hb⟩
    case measure=>simp [intOf];omega
  ·obtain rfl:k=s.size:=by omega
   have hcv:=HR.out.str (n:=s.size) (cap:=cp) (by rw [HLN.out,HL.out])
   rw [HE.out _ (by rw [HL.out];exact Nat.le_refl _)] at hcv
   have hms:(mkB (s.data.toList.map tlC)).size≤1048576:=by rw [mkB_size,List.length_map,HL.out];exact hs
   have HM:=Lh (mkB_data (s.data.toList.map tlC))
   generalize mkB (s.data.toList.map tlC)=ms at *
   go_wp2_with fail
   refine (l03Sort_any ms _ hms).mono ?_
   rintro e w' ⟨R,rfl,h1,h2,hd⟩
   rw [HM.out] at h2
   have H1:=Lh h1
   have H2:=Lh h2
   replace hb:=hb.trans (hd.mono hb.size)
   clear h1 h2 hd hcv HR
   go_wp2
   go_ret
   exact ⟨R,rfl,H1.out,H2.out,hb⟩

/-! ### The letters that a play places -/
def placedB (word:ByteArray) (fr:List Nat):List UInt8:=fr.map fun i=>word.data.toList.getD i 0
end Go.Proofs.YtgphkffbbmmmmaaGreatDoor
set_option maxRecDepth 100000
set_option maxHeartbeats 2000000
namespace Go.Proofs.YtgphkffbbmmmmaaGreatDoor
open Go.ChangeShapes Go.WideShapes Go.ChangeAt Go.RowKit Go.Sort

/-! ### strings.ReplaceAll of one byte by nothing -/
theorem index_front (c:UInt8):∀ (a t:List UInt8),c ∉ a→Lib.index (a++c :: t) [c]=(a.length:Int)
 | [],t,_=>by simp [Lib.index]
 | b :: a,t,h=>by
  have hb:b≠c:=fun e=>h (by rw [e];exact List.mem_cons_self)
  have ih:=index_front c a t (fun k=>h (List.mem_cons_of_mem _ k))
  rw [List.cons_append]
  unfold Lib.index
  rw [ih]
  have h0:List.isPrefixOf [c] (b :: (a++c :: t))=false:=by
   simp only [List.isPrefixOf,Bool.and_eq_false_iff,beq_eq_false_iff_ne]
   exact .inl (fun e=>hb e.symm)
  have h1:(((a.length:Int)) == -1)=false:=by rw [beq_eq_false_iff_ne];omega
  rw [h0,h1]
  simp
theorem index_not (c:UInt8):∀ (a:List UInt8),c ∉ a→Lib.index a [c]=-1
 | [],_=>by simp [Lib.index]
 | b :: a,h=>by
  have hb:b≠c:=fun e=>h (by rw [e];exact List.mem_cons_self)
  have ih:=index_not c a (fun k=>h (List.mem_cons_of_mem _ k))
  unfold Lib.index
  rw [ih]
  have h0:List.isPrefixOf [c] (b :: a)=false:=by
   simp only [List.isPrefixOf,Bool.and_eq_false_iff,beq_eq_false_iff_ne]
   exact .inl (fun e=>hb e.symm)
  rw [h0]
  simp
theorem filter_not (c:UInt8) {s:List UInt8} (h:c ∉ s):s.filter (fun x=>x != c)=s:=by
 rw [List.filter_eq_self]
 intro x hx
 rw [bne_iff_ne]
 rintro rfl
 exact h hx
theorem replaceK_drop (c:UInt8):∀ (k:Nat) (s:List UInt8),s.count c≤k→Lib.replaceK [c] [] k s=s.filter (fun x=>x != c)
 | 0,s,h=>by
  have:c ∉ s:=List.count_eq_zero.1 (by omega)
  rw [filter_not c this]
  rfl
 | k+1,s,h=>by
  by_cases hm:c∈s
  ·obtain ⟨a,t,rfl,ha⟩:=List.eq_append_cons_of_mem hm
   have hk:t.count c≤k:=by
    rw [List.count_append,List.count_cons_self] at h
    omega
   rw [Lib.replaceK_hit [c] [] k _ a.length (index_front c a t ha)]
   have e1:(a++c :: t).take a.length=a:=by simp
   have e2:(a++c :: t).drop (a.length+[c].length)=t:=by simp
   rw [e1,e2,replaceK_drop c k t hk,List.filter_append,filter_not c ha]
   simp
  ·unfold Lib.replaceK
   rw [index_not c s hm,filter_not c hm]
   rfl
theorem replaceAll_drop (c:UInt8) (s:List UInt8):Lib.replaceAll s [c] []=s.filter (fun x=>x != c):=by
 unfold Lib.replaceAll Lib.replace Lib.replaceNum
 rw [if_neg (by simp),if_pos (.inl (by omega)),Lib.count_one]
 exact replaceK_drop c _ _ (Nat.le_refl _)

/-! ### Blank boards -/
def lettersL (l:List UInt8):List UInt8:=l.filter (fun x=>x != 46)
theorem lettersL_snoc (l:List UInt8) (x:UInt8):lettersL (l++[x])=lettersL l++if x != 46 then [x] else []:=by
 unfold lettersL
 rw [List.filter_append]
 congr 1
 simp only [List.filter_cons,List.filter_nil]
def Brd.blank (b:Brd):Bool:=decide ((lettersL b.cells.data.toList).length=0)
theorem blank_all {b:Brd} (h:b.blank=true):∀ x∈b.cells.data.toList,x=46:=by
 intro x hx
 have h1:lettersL b.cells.data.toList=[]:=List.length_eq_zero_iff.1 (of_decide_eq_true h)
 have h2:=List.filter_eq_nil_iff.1 h1 x hx
 simpa using h2
/-- whether a valid play touches what is on the board, or the middle of a blank one -/
def Brd.touch (b:Brd) (p:Ply):Bool :=
 if b.blank then decide (p.r=b.size / 2) && (decide (p.c≤b.size / 2) && decide (b.size / 2 < p.c+p.word.size))
 else decide ((b.fresh p).length < p.word.size) || decide (1 < (b.words p).length)
theorem PGood.blank_fresh {b:Brd} {p:Ply} {n:Nat} (h:PGood b p n) (hb:b.blank=true):b.fresh p=List.range p.word.size:=by
 unfold Brd.fresh freshL
 rw [List.filter_eq_self]
 intro i hi
 have hi:=List.mem_range.1 hi
 rw [← h.good.sq p i]
 obtain ⟨h1,h2⟩:=h.sq_in hi
 obtain ⟨r,hr⟩:=Int.eq_ofNat_of_zero_le h1.1
 obtain ⟨c,hc⟩:=Int.eq_ofNat_of_zero_le h2.1
 rw [hr,hc]
 have hl:=h.good.get (r:=r) (c:=c) (by omega) (by omega)
 rw [h.good.cell_in (by omega) (by omega) rfl hl]
 have:=blank_all hb b.cells[r * n+c] (by rw [← bytes_get b.cells _ hl];exact List.getElem_mem _)
 rw [this]
 rfl
/-- one of a valid play's new squares is the middle of a blank board -/
theorem PGood.middle {b:Brd} {p:Ply} {n:Nat} (h:PGood b p n) (hb:b.blank=true):((b.fresh p).any fun i=>decide (sqOf p i=(b.size / 2,b.size / 2)))=b.touch p:=by
 unfold Brd.touch
 rw [if_pos hb,h.blank_fresh hb,Bool.eq_iff_iff]
 simp only [List.any_eq_true,List.mem_range,decide_eq_true_eq,Bool.and_eq_true,sqOf,Prod.mk.injEq]
 generalize b.size / 2=m
 unfold Ply.sr Ply.sc Ply.r Ply.c
 cases p.down with
 | false =>
  simp only [Bool.false_eq_true,if_false]
  constructor
  ·rintro ⟨i,h1,h2,h3⟩;omega
  ·rintro ⟨h1,h2,h3⟩;exact ⟨(m - p.col).toNat,by omega,by omega,by omega⟩
 | true =>
  simp only [if_true]
  constructor
  ·rintro ⟨i,h1,h2,h3⟩;omega
  ·rintro ⟨h1,h2,h3⟩;exact ⟨(m - p.row).toNat,by omega,by omega,by omega⟩
end Go.Proofs.YtgphkffbbmmmmaaGreatDoor

namespace Go.Proofs.YtgphkffbbmmmmaaGreatDoor
open Go.ChangeShapes Go.WideShapes Go.ChangeAt Go.RowKit Go.Sort

theorem take_byte {s:ByteArray} {k:Nat} (h:k < s.size):s.data.toList.take (k+1)=s.data.toList.take k++[s[k]]:=by
 have hl:k < s.data.toList.length:=by simpa using h
 rw [List.take_succ_eq_append_getElem hl,bytes_get s k h]
theorem lettersL_len (l:List UInt8):(lettersL l).length≤l.length:=List.length_filter_le _ _
theorem l11Letters_any (b:Brd) (g o:Nat) (w:World) (hg:BAt w g o b) (hs:b.cells.size≤225) :
  Calls Tryz.prog 93 #[.pointer (some ⟨g,o,none⟩)] w (StrPost w (lettersL b.cells.data.toList)):=by
 obtain ⟨i0,hi0,hi1,hi2,hi3⟩:=info_parts infoByte
 have hlt:=hg.lt
 have hd0:Below w.heap.size w (w.alloc (.cells #[] 5)):=(Below.refl _ _).alloc (Nat.le_refl _) _
 obtain ⟨lt,hltd⟩:∃ lt:Nat→List UInt8,∀ k,lt k=lettersL (b.cells.data.toList.take k):=⟨_,fun _=>rfl⟩
 have HLL:Hid (∀ k,(lt k).length≤k):=Lh (fun k=>by
  rw [hltd]
  have h1:=lettersL_len (b.cells.data.toList.take k)
  have h2:(b.cells.data.toList.take k).length≤k:=by rw [List.length_take];omega
  omega)
 have HYES:Hid (∀ k (h:k < b.cells.size),((b.cells[k].toNat:Int) == 46)=false→lt (k+1)=lt k++[b.cells[k]]):=Lh (fun k h e=>by
  rw [hltd,hltd,take_byte h,lettersL_snoc,if_pos (by rw [bne_iff_ne];exact int_not46 e)])
 have HNO:Hid (∀ k (h:k < b.cells.size),((b.cells[k].toNat:Int) == 46)=true→lt (k+1)=lt k):=Lh (fun k h e=>by
  rw [hltd,hltd,take_byte h,lettersL_snoc,if_neg (by rw [bne_iff_ne];exact fun c=>c (by have:=int_46 e;simpa using this)),List.append_nil])
 have HEND:Hid (lt b.cells.size=lettersL b.cells.data.toList):=Lh (by rw [hltd,List.take_of_length_le (by simp)])
 have HO:Hid ((w.alloc (.cells #[] 5)).ownsRow w.heap.size 5 1 (.slice (some ⟨w.heap.size,0,none⟩) (lt 0).length 0) (lt 0).length ((lt 0).flatMap U8.enc)):=Lh (by
  rw [show lt 0=[] from by rw [hltd];rfl]
  exact World.ownsRow_made (base:=w.heap.size) (e:=5) (size:=1) w #[] 0 (Nat.le_refl _) (by unfold maxLen;omega) rfl)
 have hl0:(lt 0).length=0:=by have:=HLL.out 0;omega
 have HG:=Lh (hg.kept hd0)
 have hb:=hd0
 rw [← HEND.out]
 clear hg hltd hd0 HEND
 go_enter Tryz.func93,Tryz.ntmps93
 go_wp2_with fail
 go_loopw [3,4] (fun ov iv wr=>∃ (k g1 cap:Nat),k≤b.cells.size∧iv=.int .i64 k∧ov=.slice (some ⟨g1,0,none⟩) (lt k).length cap∧Hid (wr.ownsRow w.heap.size 5 1 (.slice (some ⟨g1,0,none⟩) (lt k).length cap) (lt k).length ((lt k).flatMap U8.enc))∧Hid (BAt wr g o b)∧Below w.heap.size w wr) (fun _ iv _=>b.cells.size - (intOf iv).toNat)
 case atStart=>exact ⟨0,_,0,Nat.zero_le _,rfl,by rw [hl0],HO,HG,hb⟩
 case round =>
  clear HO HG hb hl0
  obtain ⟨k,g1,cap,hk,rfl,rfl,HO,HG,hb⟩:=hrel
  have hll:=HLL.out k
  have hz2:=hb.size
  obtain ⟨q0,q1,q2⟩:=HG.out
  by_cases hk2:k < b.cells.size
  ·have HY:=Lh (HYES.out k hk2)
   have HN:=Lh (HNO.out k hk2)
   generalize lt k=fr at *
   cases e1:((b.cells[k].toNat:Int) == 46) with
   | true =>
    have HFE:=Lh (HN.out e1)
    have HO7:Hid (wr.ownsRow w.heap.size 5 1 (.slice (some ⟨g1,0,none⟩) (lt (k+1)).length cap) (lt (k+1)).length ((lt (k+1)).flatMap U8.enc)):=Lh (by rw [HFE.out];exact HO.out)
    clear HO HY HN
    go_wp2
    go_roundw
    case rel=>exact ⟨k+1,g1,cap,by omega,by go_num,by rw [HFE.out],HO7,HG,hb⟩
    case measure=>simp [intOf];omega
   | false =>
    have HFE:=Lh (HY.out e1)
    generalize hfr:fr.length=m at *
    have hx:Below wr.heap.size wr (wr.alloc (.cells #[.int .u8 ((b.cells[k].toNat:Int))] 5)):=(Below.refl _ _).alloc (Nat.le_refl _) _
    have KN:=Lh (new_byte wr (b.cells[k]) 5)
    have HLE:Hid ((lt (k+1)).length=m+1):=Lh (by rw [HFE.out];simp [hfr])
    clear HY HN
    have hz3:w.heap.size≤wr.heap.size:=hb.size
    replace HO:=Lh (own_below HO.out hx)
    replace HG:=Lh (HG.out.kept hx)
    have q2:=HG.out.2.2
    replace hb:=hb.trans (hx.mono hb.size)
    go_wp2_with (at_builtin;go_must (refine wpList_append_lies _ rfl (.tmp 22) (.tmp 29) 49 rfl w.heap.size 5 i0 _ 1 1 Tryz.underlying49 hi0 hi1 hi2 hi3 rfl (by decide) _ m (fr.flatMap U8.enc) (by rfl) HO.out ⟨wr.heap.size,0,none⟩ 1 1 (U8.enc (b.cells[k])) (by rfl) rfl KN.out (u8_one1 (b.cells[k])) (by decide) ?c1 ?c2 ?c3 _ rfl ?_))
    case c1=>unfold maxLen;omega
    case c2=>omega
    case c3=>(first | omega | (simp only [World.size_alloc];omega))
    intro g7 cap7 w7 hown hgr hwh hlt7
    have hb7:=hb.grown hgr hb.size (fun q e=>by have:=(HO.out.lt q e).1;omega)
    have HO7:Hid (w7.ownsRow w.heap.size 5 1 (.slice (some ⟨g7,0,none⟩) (lt (k+1)).length cap7) (lt (k+1)).length ((lt (k+1)).flatMap U8.enc)):=Lh (by rw [HLE.out,HFE.out,snoc_flat U8.enc];exact hown)
    have HG7:=Lh (HG.out.grown hgr (own_ne HO.out hlt))
    clear hown hgr hwh KN HO hb HG
    go_wp2
    go_roundw
    case rel=>exact ⟨k+1,g7,cap7,by omega,by go_num,by rw [HLE.out],HO7,HG7,hb7⟩
    case measure=>simp [intOf];omega
  ·obtain rfl:k=b.cells.size:=by omega
   have hcv:=own_bytes HO.out rfl
   generalize lt b.cells.size=fr at *
   clear HO HYES HNO HLL
   go_wp2
   go_ret
   exact ⟨rfl,hb⟩
theorem empty_cmp (s:ByteArray):s.toList.isEmpty=decide (s.size=0):=by
 rw [Bool.eq_iff_iff,List.isEmpty_iff,decide_eq_true_eq,ByteArray.toList_eq]
 constructor
 ·intro h
  have:=congrArg List.length h
  simpa using this
 ·intro h
  have h1:s.data.toList.length=0:=by simpa using h
  exact List.length_eq_zero_iff.1 h1
end Go.Proofs.YtgphkffbbmmmmaaGreatDoor
namespace Go.Proofs.YtgphkffbbmmmmaaGreatDoor
open Go.ChangeShapes Go.WideShapes Go.ChangeAt Go.RowKit Go.Sort

theorem PGood.cross_le {b:Brd} {p:Ply} {n:Nat} (h:PGood b p n) {i:Nat} (hi:i < p.word.size):(crossS b p i).length≤31:=by
 unfold crossS
 rw [seqL_len]
 have h1:=seqU_le h.made_good (d:=!p.down) (h.made_full hi).2
 have h2:=seqD_le h.made_good (d:=!p.down) (h.made_full hi).2
 omega
theorem row_ent {w:World} {base g cap n:Nat} {sq:Nat→List (Int × Int)} {es:List Ent} (h:w.ownsRow base 164 1 (.slice (some ⟨g,0,none⟩) n cap) n (es.flatMap (Ent.enc sq))) {k:Nat} (hk:k < es.length):w.cell? ⟨g,k,none⟩=some (.slice (some ⟨es[k].g,0,none⟩) (sq es[k].i).length es[k].cap):=by
 have h1:=own_news0 h k (.slice (some ⟨es[k].g,0,none⟩) (sq es[k].i).length es[k].cap) (by
  have:=flatMap_get (enc:=Ent.enc sq) (sz:=1) (Ent.enc_len sq) es hk (j:=0) (by omega)
  rw [Nat.mul_one,Nat.add_zero] at this
  rw [this]
  rfl)
 rwa [Go.Addr.add_lit,Nat.zero_add] at h1
end Go.Proofs.YtgphkffbbmmmmaaGreatDoor
namespace Go.Proofs.YtgphkffbbmmmmaaGreatDoor
open Go.ChangeShapes Go.WideShapes Go.ChangeAt Go.RowKit Go.Sort

end Go.Proofs.YtgphkffbbmmmmaaGreatDoor

namespace Go.Proofs.YtgphkffbbmmmmaaGreatDoor
open Go.ChangeShapes Go.WideShapes Go.ChangeAt Go.RowKit Go.Sort

end Go.Proofs.YtgphkffbbmmmmaaGreatDoor

namespace Go.Proofs.YtgphkffbbmmmmaaGreatDoor
open Go.ChangeShapes Go.WideShapes Go.ChangeAt Go.RowKit Go.Sort

end Go.Proofs.YtgphkffbbmmmmaaGreatDoor
namespace Go.Proofs.YtgphkffbbmmmmaaGreatDoor
open Go.ChangeShapes Go.WideShapes Go.ChangeAt Go.RowKit Go.Sort

/-! ### Plain -/
/-- the tiles that a play places, in order -/
def Brd.tiles (b:Brd) (p:Ply):List UInt8:=(placedB p.word (b.fresh p)).map tlC
/-- the reference's way of taking tiles answers as the plain law -/
theorem take_tiles {a:ByteArray} {R L:List UInt8} (ha:pileOk a.data.toList=true) (hR:SortedT R) (hp:R.Perm L) (hL:∀ c∈L,tileB c=true):decide (takeK R a.data.toList=R.length)=hasT a.data.toList L:=by
 rw [take_has (pile_sorted ha) hR (fun c hc=>hL c (hp.mem_iff.1 hc))]
 exact has_congr fun k _=>cnt_perm hp k
end Go.Proofs.YtgphkffbbmmmmaaGreatDoor
