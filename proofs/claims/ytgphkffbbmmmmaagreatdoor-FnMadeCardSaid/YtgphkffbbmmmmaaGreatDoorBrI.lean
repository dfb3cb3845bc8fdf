/- Contracts: the reference's boards turned over, small letters, strings reversed. For boards · Contracts: the program's boards: whether one is valid, a square, what is on it. No conditi -/
import Derived.Test.YtgphkffbbmmmmaaGreatDoorBrA
import Derived.Test.YtgphkffbbmmmmaaGreatDoorVar
import Derived.OwnWalk
import Derived.Laws.AppendOwn
import Derived.Deep.DeepMust
import Derived.Deep.RegionLaw
import Derived.StillTailTactics
import Derived.Test.YtgphkffbbmmmmaaGreatDoorShq
import Derived.Laws.BytesArg
set_option maxRecDepth 100000
set_option maxHeartbeats 4000000
namespace Go.Proofs.YtgphkffbbmmmmaaGreatDoor
open Go.ChangeShapes Go.WideShapes Go.ChangeAt Go.RowKit Go.Sort

/-! ### Plain -/
theorem turnB_take {n:Nat} {L:List UInt8} {c r m:Nat} (hc:c < n) (hr:r < n) (hm:m=c * n+r):(turnB n L).take (m+1)=(turnB n L).take m++[L.getD (r * n+c) 0]:=by
 have h1:c * n+r < n * n:=row_ltn hc hr
 have hlt:m < (turnB n L).length:=by rw [turnB_len,hm];exact h1
 rw [List.take_succ_eq_append_getElem hlt]
 congr 1
 have h2:(turnB n L).getD m 0=L.getD (r * n+c) 0:=by rw [hm];exact turnB_get hc hr
 rw [List.getD_eq_getElem?_getD,List.getElem?_eq_getElem hlt] at h2
 simpa using h2
theorem getD_byt {s:ByteArray} {k:Nat} (h:k < s.size):s.data.toList.getD k 0=s[k]:=by
 rw [List.getD_eq_getElem?_getD,List.getElem?_eq_getElem (by simpa using h)]
 rfl
theorem snoc_flat {α:Type} (f:α→List Value) (xs:List α) (x:α):(xs++[x]).flatMap f=xs.flatMap f++f x:=by simp
theorem l11Turn_any (n:Nat) (s:ByteArray) (w:World) (hn:n≤15) (hz:s.size=n * n) :
  Calls Tryz.prog 234 #[.int .i64 n,.string s] w fun e w'=>e=.returned (.string (mkB (turnB n s.data.toList)))∧Below w.heap.size w w':=by
 obtain ⟨i0,hi0,hi1,hi2,hi3⟩:=info_parts infoByte
 obtain ⟨w3,hw3⟩:∃ w3,w3=w.alloc (.cells #[] 5):=⟨_,rfl⟩
 have hb:Below w.heap.size w w3:=by rw [hw3];exact (Below.refl _ _).alloc (Nat.le_refl _) _
 have HO:Hid (w3.ownsRow w.heap.size 5 1 (.slice (some ⟨w.heap.size,0,none⟩) 0 0) 0 []):=by
  rw [hw3]
  exact Lh (World.ownsRow_made (base:=w.heap.size) (e:=5) (size:=1) w #[] 0 (by simp) (by unfold maxLen;omega) rfl)
 have HZ:=Lh hz
 have HLN:=Lh (turnB_len n s.data.toList)
 have HTK:=Lh (fun (c r m:Nat) (h1:c < n) (h2:r < n) (h3:m=c * n+r)=>turnB_take (L:=s.data.toList) h1 h2 h3)
 have HW3:=Lh hw3
 clear hz hw3
 go_enter Tryz.func234,Tryz.ntmps234
 go_wp2_with fail
 rw [← HW3.out]
 clear HW3
 go_loopw [5,6] (fun ov iv wr=>∃ (c m g cap:Nat),c≤n∧iv=.int .i64 c∧ov=.slice (some ⟨g,0,none⟩) m cap∧Hid (m=c * n)∧m≤225∧Hid (wr.ownsRow w.heap.size 5 1 (.slice (some ⟨g,0,none⟩) m cap) m (((turnB n s.data.toList).take m).flatMap U8.enc))∧Below w.heap.size w wr) (fun _ iv _=>n - (intOf iv).toNat)
 case atStart=>exact ⟨0,0,_,0,Nat.zero_le _,rfl,rfl,Lh (by simp),by omega,HO,hb⟩
 case round =>
  clear HO hb
  obtain ⟨c,m,g,cap,hc,rfl,rfl,HN,hm,HO,hb⟩:=hrel
  by_cases hlt:c < n
  ·go_wp2_with fail
   obtain ⟨wo,rfl⟩:∃ wo:World,wo=wr:=⟨_,rfl⟩
   go_loopw [5,7] (fun ov iv wr=>∃ (r m g cap:Nat),r≤n∧iv=.int .i64 r∧ov=.slice (some ⟨g,0,none⟩) m cap∧Hid (m=c * n+r)∧m≤225∧Hid (wr.ownsRow w.heap.size 5 1 (.slice (some ⟨g,0,none⟩) m cap) m (((turnB n s.data.toList).take m).flatMap U8.enc))∧Below w.heap.size w wr) (fun _ iv _=>n - (intOf iv).toNat)
   case atStart=>exact ⟨0,m,g,cap,Nat.zero_le _,rfl,rfl,Lh (by rw [HN.out];rfl),hm,HO,hb⟩
   case round =>
    clear HO hb hm HN
    obtain ⟨r,m,g2,cap2,hr,rfl,rfl,HM,hm,HO,hb⟩:=hrel
    by_cases hr2:r < n
    ·have HT:=Lh (HTK.out c r m hlt hr2 HM.out)
     have hlt2:=row_ltn hr2 hlt
     have hsm:=sq_mono hn
     have hm2:m < 225:=by
      have h1:=HM.out
      have h2:=row_ltn hlt hr2
      omega
     have HM2:Hid (m+1=c * n+(r+1)):=Lh (by have:=HM.out;omega)
     obtain ⟨q,hq⟩:∃ q,q=r * n:=⟨_,rfl⟩
     have hqi:(r:Int) * (n:Int)=(q:Int):=by rw [hq];push_cast;rfl
     have hqs:q+c < s.size:=by have:=HZ.out;omega
     have HY:Hid (s.data.toList.getD (r * n+c) 0=s[q+c]):=Lh (by rw [← hq];exact getD_byt hqs)
     rw [HY.out] at HT
     have hq3:q≤225:=by omega
     clear HM HY hlt2 hq hsm
     have hx:Below wr.heap.size wr (wr.alloc (.cells #[.int .u8 (s[q+c].toNat:Int)] 5)):=(Below.refl _ _).alloc (Nat.le_refl _) _
     have KN:=Lh (new_byte wr s[q+c] 5)
     replace HO:=Lh (own_below HO.out hx)
     have hz2:=hb.size
     replace hb:=hb.trans (hx.mono hb.size)
     clear hx
     go_wp2_with (at_builtin;go_must (refine wpList_append_own _ rfl (.tmp 19) (.tmp 27) 49 rfl w.heap.size 5 i0 _ 1 1 Tryz.underlying49 hi0 hi1 hi2 hi3 rfl (by decide) _ m (((turnB n s.data.toList).take m).flatMap U8.enc) (by rfl) HO.out ⟨wr.heap.size,0,none⟩ 1 1 (U8.enc s[q+c]) (by rfl) rfl KN.out (u8_one1 s[q+c]) ?c1 ?c2 ?c3 ?_))
     case c1=>unfold maxLen;omega
     case c2=>omega
     case c3=>(first | omega | (simp only [World.size_alloc];omega))
     intro v' w7 hown hgr hnil
     obtain ⟨g7,cap7,rfl,_⟩:=own_some hown (fun e=>by have h:=hnil;rw [e] at h;simp at h)
     have hb7:=hb.grown hgr hb.size (fun q e=>by have:=(HO.out.lt q e).1;omega)
     have HO7:Hid (w7.ownsRow w.heap.size 5 1 (.slice (some ⟨g7,0,none⟩) (m+1) cap7) (m+1) (((turnB n s.data.toList).take (m+1)).flatMap U8.enc)):=Lh (by
      rw [HT.out,snoc_flat U8.enc];exact hown)
     clear hown hgr hnil KN HO hb HT
     go_wp2
     go_roundw
     case rel=>exact ⟨r+1,m+1,g7,cap7,by omega,by go_num,by go_num,HM2,by omega,HO7,hb7⟩
     case measure=>simp [intOf];omega
    ·obtain rfl:r=n:=by omega
     have HM2:Hid (m=(c+1) * r):=Lh (by rw [Nat.succ_mul];exact HM.out)
     clear HM
     go_wp2
     go_roundw
     case rel=>exact ⟨c+1,m,g2,cap2,by omega,by go_num,rfl,HM2,hm,HO,hb⟩
     case measure=>simp [intOf];omega
  ·obtain rfl:c=n:=by omega
   have HE:Hid ((turnB c s.data.toList).take m=turnB c s.data.toList):=Lh (List.take_of_length_le (by rw [HLN.out,HN.out];exact Nat.le_refl _))
   have hO:=HO.out
   rw [HE.out] at hO
   have HNL:Hid (m=(turnB c s.data.toList).length):=Lh (by rw [HN.out,HLN.out])
   generalize hP:turnB c s.data.toList=P at *
   have HP:=Lh hP
   clear hP HO HE HTK HLN
   have hcv:=own_bytes hO HNL.out
   clear hO
   go_wp2
   go_ret
   exact ⟨by rw [HP.out];rfl,hb⟩
theorem set_cell {w:World} {x k g o:Nat} {v u:Value} (hne:g≠x) (h:w.cell? ⟨g,o,none⟩=some v):(w.setCell ⟨x,k,none⟩ u).cell? ⟨g,o,none⟩=some v:=by
 rw [World.cell?_setCell_other _ _ _ _ (fun e=>hne (by cases e;rfl)),h]
theorem set2_cell {w:World} {x g o:Nat} {v u0 u1:Value} (hne:g≠x) (h:w.cell? ⟨g,o,none⟩=some v):((w.setCell ⟨x,0,none⟩ u0).setCell ⟨x,1,none⟩ u1).cell? ⟨g,o,none⟩=some v:=set_cell hne (set_cell hne h)
theorem set3_cell {w:World} {x g o:Nat} {v u0 u1 u2:Value} (hne:g≠x) (h:w.cell? ⟨g,o,none⟩=some v):(((w.setCell ⟨x,0,none⟩ u0).setCell ⟨x,1,none⟩ u1).setCell ⟨x,2,none⟩ u2).cell? ⟨g,o,none⟩=some v:=set_cell hne (set2_cell hne h)
theorem l11Transpose_any (b:Brd) (n:Nat) (g o:Nat) (w:World) (hb0:b.Good n) (hg:BAt w g o b) :
  Calls Tryz.prog 202 #[.pointer (some ⟨g,o,none⟩)] w fun e w'=>e=.returned (.agg #[.int .i64 b.turn.size,.string b.turn.premium,.string b.turn.cells])∧Below w.heap.size w w':=by
 have hlt:=hg.lt
 obtain ⟨tn,htn⟩:∃ tn:ByteArray→ByteArray,∀ s,tn s=mkB (turnB n s.data.toList):=⟨_,fun _=>rfl⟩
 have hnn:b.size.toNat=n:=by rw [hb0.size];simp
 have HT:Hid (∀ s W,s.size=n * n→Calls Tryz.prog 234 #[.int .i64 n,.string s] W fun e w'=>e=.returned (.string (tn s))∧Below W.heap.size W w'):=Lh (fun s W hs=>by
  rw [htn]
  exact l11Turn_any n s W hb0.hi hs)
 have HR:Hid (Ending.returned (.agg #[.int .i64 b.turn.size,.string b.turn.premium,.string b.turn.cells])=.returned (.agg #[.int .i64 n,.string (tn b.premium),.string (tn b.cells)])):=Lh (by
  rw [htn,htn]
  unfold Brd.turn
  rw [hnn,hb0.size])
 rw [HR.out]
 clear HR htn hnn
 have hbs:=hb0.size
 have hp:=Lh hb0.prem
 have hc:=Lh hb0.cells
 have hx0:Below w.heap.size w (w.alloc (.cells #[.int .i64 0,.string ⟨#[]⟩,.string ⟨#[]⟩] 29)):=(Below.refl _ _).alloc (Nat.le_refl _) _
 have V0:=Lh (VarAt.new w 29 [.int .i64 0,.string ⟨#[]⟩,.string ⟨#[]⟩])
 have HG:=Lh (hg.kept hx0)
 clear hg hb0
 go_enter Tryz.func202,Tryz.ntmps202
 go_upto_region 1 with fail
 generalize w.alloc (.cells #[.int .i64 0,.string ⟨#[]⟩,.string ⟨#[]⟩] 29)=w1 at *
 have hg0:w1.cell? ⟨g,o,none⟩=some (.int .i64 n):=hbs ▸ HG.out.1
 have hk:=hx0.trans ((Below.refl w1.heap.size w1).drew.mono hx0.size)
 have hk1:Below w1.heap.size w1 w1.drew:=(Below.refl _ _).drew
 have kv:=Lh (V0.out.kept hk1)
 have kg:=Lh (HG.out.kept hk1)
 have hk0:=Lh (cell_kept hg0 hk1)
 clear V0 HG hk1 hx0 hg0
 go_region_held3 (fun w'=>w'.cell? ⟨g,o,none⟩=some (.int .i64 n)∧w'.cell? ⟨g,o+1,none⟩=some (.string b.premium)∧w'.cell? ⟨g,o+2,none⟩=some (.string b.cells))
  (first | exact ⟨hk0.out,kg.out.2.1,kg.out.2.2⟩ | exact ⟨set3_cell (by omega) hk0.out,set3_cell (by omega) kg.out.2.1,set3_cell (by omega) kg.out.2.2⟩)
  ((go_at_call 234;refine (HT.out _ _ (by first | exact hp.out | exact hc.out)).mono ?_;rintro e wq ⟨rfl,hdq⟩;replace kv:=Lh (kv.out.kept hdq);replace kg:=Lh (kg.out.kept hdq);replace hk0:=Lh (cell_kept hk0.out hdq);replace hk:=hk.trans (hdq.mono hk.size);clear hdq;(try clear q0 q1 q2 p0 p1 p2);have q0:=kv.out.cell (i:=0) rfl;have q1:=kv.out.cell (i:=1) rfl;have q2:=kv.out.cell (i:=2) rfl;have p0:=kv.out.free 0;have p1:=kv.out.free 1;have p2:=kv.out.free 2))
 all_goals
  obtain ⟨o0,k0⟩:=kv.out.set 0 (.int .i64 n)
  obtain ⟨o1,k1⟩:=o0.set 1 (.string (tn b.premium))
  obtain ⟨o2,k2⟩:=o1.set 2 (.string (tn b.cells))
  have GG:=grownBy_trans (grownBy_trans k0 k1) k2
  have hb9:=hk.grown GG hk.size (fun q h=>by cases h;exact Nat.le_refl _)
  have e0:=o2.cell (i:=0) (v:=.int .i64 n) rfl
  have e1:=o2.cell (i:=1) (v:=.string (tn b.premium)) rfl
  have e2:=o2.cell (i:=2) (v:=.string (tn b.cells)) rfl
  clear o0 o1 o2 k0 k1 k2 GG
  go_wp2
  refine bodyPost_ret (v:=.agg #[.int .i64 n,.string (tn b.premium),.string (tn b.cells)]) (by simp [results,Tryz.results202,go_sem,e0,e1,e2]) rfl ?_
  exact ⟨rfl,hb9⟩
end Go.Proofs.YtgphkffbbmmmmaaGreatDoor

namespace Go.Proofs.YtgphkffbbmmmmaaGreatDoor
open Go.ChangeShapes Go.WideShapes Go.ChangeAt Go.RowKit Go.Sort

/-! ### Plain -/
theorem lowC_cap {c:UInt8} (h:capB (c.toNat:Int)=true):((lowC c).toNat:Int)=(c.toNat:Int)+32:=by
 unfold lowC
 rw [if_pos h]
 unfold capB at h
 simp only [Bool.and_eq_true,decide_eq_true_eq] at h
 rw [UInt8.toNat_add]
 show (((c.toNat+32) % 256:Nat):Int)=_
 omega
theorem lowC_not {c:UInt8} (h:capB (c.toNat:Int)=false):lowC c=c:=by
 unfold lowC
 rw [h];rfl
theorem cap_range {c:Int} (h:capB c=true):65≤c∧c≤90:=by
 unfold capB at h
 simpa only [Bool.and_eq_true,decide_eq_true_eq] using h
end Go.Proofs.YtgphkffbbmmmmaaGreatDoor

namespace Go.Proofs.YtgphkffbbmmmmaaGreatDoor
open Go.ChangeShapes Go.WideShapes Go.ChangeAt Go.RowKit Go.Sort

/-! ### Plain -/
theorem low_eq (c:UInt8):Lib.lowerB c=lowC c:=by
 unfold Lib.lowerB lowC
 have e:Lib.isUpperB c=capB (c.toNat:Int):=by
  unfold Lib.isUpperB capB
  rw [Bool.eq_iff_iff]
  simp only [Bool.and_eq_true,decide_eq_true_eq,UInt8.le_iff_toNat_le]
  have h1:(65:UInt8).toNat=65:=rfl
  have h2:(90:UInt8).toNat=90:=rfl
  rw [h1,h2]
  omega
 rw [e]
theorem lowA_eq (l:List UInt8):Lib.toLowerA l=lowL l:=by
 unfold Lib.toLowerA lowL
 exact List.map_congr_left (fun c _=>low_eq c)

end Go.Proofs.YtgphkffbbmmmmaaGreatDoor

namespace Go.Proofs.YtgphkffbbmmmmaaGreatDoor
open Go.ChangeShapes Go.WideShapes Go.ChangeAt Go.RowKit Go.Sort

/-! ### Plain -/
theorem upL_full {F:Fl} {c r:Int} {k:Nat} (h:fullC (F r c)=true):upL F c (k+1) r=F r c :: upL F c k (r - 1):=by
 rw [upL,if_pos h]
theorem upL_stop {F:Fl} {c r:Int} {k:Nat} (h:fullC (F r c)=false):upL F c k r=[]:=by
 cases k with
 | zero=>rfl
 | succ k=>rw [upL,h];rfl
theorem dnL_full {F:Fl} {c r:Int} {k:Nat} (h:fullC (F r c)=true):dnL F c (k+1) r=F r c :: dnL F c k (r+1):=by
 rw [dnL,if_pos h]
theorem dnL_stop {F:Fl} {c r:Int} {k:Nat} (h:fullC (F r c)=false):dnL F c k r=[]:=by
 cases k with
 | zero=>rfl
 | succ k=>rw [dnL,h];rfl
theorem Drew.bels {w w':World} (h:Drew w w'):Below w.heap.size w w':=h.below _
end Go.Proofs.YtgphkffbbmmmmaaGreatDoor
set_option maxRecDepth 100000
set_option maxHeartbeats 4000000
namespace Go.Proofs.YtgphkffbbmmmmaaGreatDoor
open Go.ChangeShapes Go.WideShapes Go.ChangeAt Go.RowKit Go.Sort

theorem prem_index:∀ c:Fin 256,decide (0≤Lib.indexByte [50,51,100,116,46] (UInt8.ofNat c.val))=premB (c.val:Int):=by decide
theorem prem_eq (c:UInt8):decide (0≤Lib.indexByte [50,51,100,116,46] c)=premB (c.toNat:Int):=by
 have:=prem_index ⟨c.toNat,c.toNat_lt⟩
 simpa using this
theorem premiumOk_any (c:UInt8) (w:World):Calls Tryz.prog 122 #[.int .u8 (c.toNat:Int)] w fun e w'=>e=.returned (.bool (premB c.toNat))∧w=w':=by
 have HP:=Lh (prem_eq c)
 have HS:Hid (∀ W,Calls Tryz.prog 158 #[.string ⟨#[50,51,100,116,46]⟩,.int .u8 (c.toNat:Int)] W fun e w'=>e=.returned (.int .i64 (Lib.indexByte [50,51,100,116,46] c))∧w'=W):=Lh (fun W=>by
  have:=Tryz.strings_IndexByte ⟨#[50,51,100,116,46]⟩ (c.toNat:Int) W
  rw [show ((c.toNat:Int)).toNat.toUInt8=c from by simp] at this
  exact this)
 generalize Lib.indexByte [50,51,100,116,46] c=z at *
 go_enter Tryz.func122,Tryz.ntmps122
 go_wp2_with fail
 refine (HS.out _).mono ?_
 rintro e w' ⟨rfl,rfl⟩
 go_wp2
 go_ret
 exact ⟨ret_bool HP.out,rfl⟩
theorem allPrem_any (s:ByteArray) (w:World) (hs:s.size≤9223372036854775807):Calls Tryz.prog 121 #[.string s,.func (.func 122) #[] #[]] w fun e w'=>e=.returned (.bool (allP s))∧w=w':=by
 show Calls _ _ _ _ fun e w'=>e=.returned (.bool (s.data.toList.all (fun c=>premB c.toNat)))∧w=w'
 obtain ⟨all,hall⟩:∃ all,all=s.data.toList.all (fun c=>premB c.toNat):=⟨_,rfl⟩
 rw [← hall]
 have HL:=Lh hall
 clear hall
 go_enter Tryz.func121,Tryz.ntmps121
 go_wp2
 go_loop [5] (fun i=>∃ k:Nat,k≤s.size∧i=.int .i64 k∧Hid (upTo premB s k)) (fun i=>s.size - (intOf i).toNat)
 case atStart=>exact ⟨0,Nat.zero_le _,rfl,Lh (upTo.zero _ _)⟩
 case round =>
  obtain ⟨k,hk,rfl,HA⟩:=hrel
  by_cases hlt:k < s.size
  ·cases hsm:premB s[k].toNat with
   | false =>
    have HN:Hid (all=false):=Lh (by rw [HL.out];exact all_get hlt hsm)
    go_wp2_with fail
    refine (premiumOk_any _ _).mono ?_
    rintro e w' ⟨rfl,rfl⟩
    rw [hsm]
    clear hsm
    go_wp2
    go_ret
    exact ⟨ret_bool HN.out.symm,rfl⟩
   | true =>
    have HN:Hid (upTo premB s (k+1)):=Lh (all_step hlt HA.out hsm)
    go_wp2_with fail
    refine (premiumOk_any _ _).mono ?_
    rintro e w' ⟨rfl,rfl⟩
    rw [hsm]
    clear hsm
    go_wp2
    go_round
    case rel=>exact ⟨k+1,by omega,by go_num,HN⟩
    case measure=>simp [intOf];omega
  ·have HN:Hid (all=true):=Lh (by rw [HL.out];exact all_end (k:=k) (by omega) HA.out)
   go_wp2
   go_ret
   exact ⟨ret_bool HN.out.symm,rfl⟩
theorem ValidBoard_any (b:Brd) (w:World) (hf:b.fit) :
  Calls Tryz.prog 84 #[.agg #[.int .i64 b.size,.string b.premium,.string b.cells]] w fun e w'=>e=.returned (.bool b.ok)∧Below w.heap.size w w':=by
 have hb:Below w.heap.size w (w.alloc (.cells #[.int .i64 b.size,.string b.premium,.string b.cells] 29)):=(Below.refl _ _).alloc (Nat.le_refl _) _
 obtain ⟨hf1,hf2⟩:=hf
 cases h1:withinB b.size 5 15 with
 | false =>
  have HN:=Lh (Brd.ok_size h1)
  have HI1:Hid (∀ W,Calls Tryz.prog 107 #[.int .i64 b.size] W fun e w'=>e=.returned (.bool false)∧W=w'):=Lh (fun W=>by have:=sizeOk_any b.size W;rwa [h1] at this)
  clear h1
  go_enter Tryz.func84,Tryz.ntmps84
  go_wp2_with (go_at_call 107;refine (HI1.out _).mono ?_;rintro e w' ⟨rfl,rfl⟩)
  go_ret
  exact ⟨ret_bool HN.out.symm,hb⟩
 | true =>
  have HN1:=Lh (Brd.ok_prem (b:=b))
  have HN2:=Lh (Brd.ok_cells (b:=b))
  have HY:=Lh (Brd.ok_eq (b:=b) h1)
  obtain ⟨n,hn,n5,n15⟩:=withinN h1
  have HI1:Hid (∀ W,Calls Tryz.prog 107 #[.int .i64 (n:Int)] W fun e w'=>e=.returned (.bool true)∧W=w'):=Lh (fun W=>by have:=sizeOk_any b.size W;rwa [h1,hn] at this)
  have HSZ:=Lh hn
  rw [hn] at hb
  rw [hn]
  obtain ⟨q,hq⟩:∃ q,q=n * n:=⟨_,rfl⟩
  have hqi:(n:Int) * (n:Int)=(q:Int):=by rw [hq];push_cast;rfl
  have hq3:q≤225:=by rw [hq];exact sq_mono n15
  have HQ:=Lh hqi
  clear h1 hn hq
  by_cases h3:b.premium.size=q
  ·have h4:((b.premium.size:Int) != (q:Int))=false:=by rw [h3];simp
   by_cases h5:b.cells.size=b.premium.size
   ·have h6:((b.cells.size:Int) != (b.premium.size:Int))=false:=by rw [h5];simp
    have HN0:Hid (b.ok=(allP b.premium && allC b.cells)):=Lh (HY.out (by rw [HSZ.out,HQ.out,h3]) h5)
    have H3:=Lh h3
    have H5:=Lh h5
    clear HN1 HN2 HY h3 h5
    cases hp:allP b.premium with
    | false =>
     have HN:Hid (b.ok=false):=Lh (by rw [HN0.out,hp];rfl)
     go_enter Tryz.func84,Tryz.ntmps84
     go_wp2_with fail
     refine (HI1.out _).mono ?_
     rintro e w' ⟨rfl,rfl⟩
     go_wp2_with fail
     refine (allPrem_any b.premium _ hf1).mono ?_
     rintro e w' ⟨rfl,rfl⟩
     rw [hp]
     clear hp
     go_wp2
     go_ret
     exact ⟨ret_bool HN.out.symm,hb⟩
    | true =>
     have HN:Hid (b.ok=allC b.cells):=Lh (by rw [HN0.out,hp];rfl)
     go_enter Tryz.func84,Tryz.ntmps84
     go_wp2_with fail
     refine (HI1.out _).mono ?_
     rintro e w' ⟨rfl,rfl⟩
     go_wp2_with fail
     refine (allPrem_any b.premium _ hf1).mono ?_
     rintro e w' ⟨rfl,rfl⟩
     rw [hp]
     clear hp
     go_wp2_with fail
     refine (allCell_any b.cells _ hf2).mono ?_
     rintro e w' ⟨rfl,rfl⟩
     go_wp2
     go_ret
     exact ⟨ret_bool HN.out.symm,hb⟩
   ·have h6:((b.cells.size:Int) != (b.premium.size:Int))=true:=by simp;omega
    have HN:Hid (b.ok=false):=Lh (HN2.out h5)
    have H3:=Lh h3
    clear HN1 HN2 HY h3 h5
    go_enter Tryz.func84,Tryz.ntmps84
    go_wp2_with (go_at_call 107;refine (HI1.out _).mono ?_;rintro e w' ⟨rfl,rfl⟩)
    go_ret
    exact ⟨ret_bool HN.out.symm,hb⟩
  ·have h4:((b.premium.size:Int) != (q:Int))=true:=by simp;omega
   have HN:Hid (b.ok=false):=Lh (HN1.out (by rw [HSZ.out,HQ.out];omega))
   clear HN1 HN2 HY h3
   go_enter Tryz.func84,Tryz.ntmps84
   go_wp2_with (go_at_call 107;refine (HI1.out _).mono ?_;rintro e w' ⟨rfl,rfl⟩)
   go_ret
   exact ⟨ret_bool HN.out.symm,hb⟩
theorem inside_any (b:Brd) (n:Nat) (r c:Int) (w:World) (hb0:b.Good n) :
  Calls Tryz.prog 215 #[.agg #[.int .i64 b.size,.string b.premium,.string b.cells],.int .i64 r,.int .i64 c] w fun e w'=>e=.returned (.bool (b.inB r c))∧Below w.heap.size w w':=by
 have HS:Hid (b.inB r c=(withinB r 0 ((n:Int) - 1) && withinB c 0 ((n:Int) - 1))):=Lh (by unfold Brd.inB;rw [hb0.size])
 have h15:=hb0.hi
 have h5:=hb0.lo
 rw [hb0.size]
 clear hb0
 have hb:Below w.heap.size w (w.alloc (.cells #[.int .i64 n,.string b.premium,.string b.cells] 29)):=(Below.refl _ _).alloc (Nat.le_refl _) _
 cases h1:withinB r 0 ((n:Int) - 1) with
 | false =>
  have HE:Hid (b.inB r c=false):=Lh (by rw [HS.out,h1];rfl)
  go_enter Tryz.func215,Tryz.ntmps215
  go_wp2_with fail
  refine (within_any _ _ _ _).mono ?_
  rintro e w' ⟨rfl,rfl⟩
  rw [h1]
  clear h1
  go_wp2
  go_ret
  exact ⟨ret_bool HE.out.symm,hb⟩
 | true =>
  have HE:Hid (b.inB r c=withinB c 0 ((n:Int) - 1)):=Lh (by rw [HS.out,h1];rfl)
  go_enter Tryz.func215,Tryz.ntmps215
  go_wp2_with fail
  refine (within_any _ _ _ _).mono ?_
  rintro e w' ⟨rfl,rfl⟩
  rw [h1]
  clear h1
  go_wp2_with fail
  refine (within_any _ _ _ _).mono ?_
  rintro e w' ⟨rfl,rfl⟩
  go_wp2
  go_ret
  exact ⟨ret_bool HE.out.symm,hb⟩
theorem cell_any (b:Brd) (n:Nat) (r c:Int) (w:World) (hb0:b.Good n) :
  Calls Tryz.prog 216 #[.agg #[.int .i64 b.size,.string b.premium,.string b.cells],.int .i64 r,.int .i64 c] w fun e w'=>e=.returned (.int .u8 ((b.cell r c).toNat:Int))∧Below w.heap.size w w':=by
 have HIN:Hid (∀ W,Calls Tryz.prog 215 #[.agg #[.int .i64 n,.string b.premium,.string b.cells],.int .i64 r,.int .i64 c] W fun e w'=>e=.returned (.bool (b.inB r c))∧Below W.heap.size W w'):=Lh (fun W=>by have:=inside_any b n r c W hb0;rwa [hb0.size] at this)
 cases hi:b.inB r c with
 | false =>
  have HE:Hid (b.cell r c=0):=Lh (Brd.cell_out hi)
  rw [hb0.size]
  have hb:Below w.heap.size w (w.alloc (.cells #[.int .i64 n,.string b.premium,.string b.cells] 29)):=(Below.refl _ _).alloc (Nat.le_refl _) _
  go_enter Tryz.func216,Tryz.ntmps216
  go_wp2_with fail
  refine (HIN.out _).mono ?_
  rintro e w' ⟨rfl,hd⟩
  rw [hi]
  go_wp2
  go_ret
  exact ⟨by rw [HE.out];rfl,hb.trans (hd.mono hb.size)⟩
 | true =>
  obtain ⟨i,j,q,rfl,rfl,hq,hqi,hl,hlt,hin,hjn,hc⟩:=hb0.place hi
  have HX:=Lh (hc hl)
  have h15:=hb0.hi
  rw [hb0.size]
  clear hb0 hc hq
  have hb:Below w.heap.size w (w.alloc (.cells #[.int .i64 n,.string b.premium,.string b.cells] 29)):=(Below.refl _ _).alloc (Nat.le_refl _) _
  have V:=Lh (VarAt.new w 29 [.int .i64 n,.string b.premium,.string b.cells])
  go_enter Tryz.func216,Tryz.ntmps216
  go_wp2_with fail
  refine (HIN.out _).mono ?_
  rintro e w' ⟨rfl,hd⟩
  rw [hi]
  clear hi
  replace hb:=hb.trans (hd.mono hb.size)
  replace V:=Lh (V.out.kept hd)
  have c0:=V.out.cell (i:=0) rfl
  have c2:=V.out.cell (i:=2) rfl
  clear V hd
  have w1:IntKind.i64.wrap (q:Int)=q:=IntWalk.i64_in _ (by omega)
  have w2:IntKind.i64.wrap ((q:Int)+(j:Int))=(q:Int)+j:=IntWalk.i64_in _ (by omega)
  have w3:((q:Int)+(j:Int)).toNat=q+j:=by omega
  have w4:(0:Int)≤(q:Int)+(j:Int):=by omega
  have w5:(q:Int)+(j:Int) < (b.cells.size:Int):=by omega
  go_wp2_with fail
  go_ret
  exact ⟨by rw [HX.out];rfl,hb⟩
theorem letter_any (b:Brd) (n:Nat) (r c:Int) (w:World) (hb0:b.Good n) :
  Calls Tryz.prog 218 #[.agg #[.int .i64 b.size,.string b.premium,.string b.cells],.int .i64 r,.int .i64 c] w fun e w'=>e=.returned (.bool (fullC (b.cell r c)))∧Below w.heap.size w w':=by
 have hb:Below w.heap.size w (w.alloc (.cells #[.int .i64 b.size,.string b.premium,.string b.cells] 29)):=(Below.refl _ _).alloc (Nat.le_refl _) _
 have HC:Hid (∀ W,Calls Tryz.prog 216 #[.agg #[.int .i64 b.size,.string b.premium,.string b.cells],.int .i64 r,.int .i64 c] W fun e w'=>e=.returned (.int .u8 ((b.cell r c).toNat:Int))∧Below W.heap.size W w'):=Lh (fun W=>cell_any b n r c W hb0)
 have HE:Hid (fullC (b.cell r c)=((((b.cell r c).toNat:Int) != 0) && (((b.cell r c).toNat:Int) != 46))):=Lh (full_int _)
 clear hb0
 generalize b.cell r c=x at *
 cases h1:((x.toNat:Int) != 0) with
 | false =>
  rw [h1] at HE
  go_enter Tryz.func218,Tryz.ntmps218
  go_wp2_with fail
  refine (HC.out _).mono ?_
  rintro e w' ⟨rfl,hd⟩
  have hb2:=hb.trans (hd.mono hb.size)
  clear hd hb
  go_wp2
  go_ret
  exact ⟨by rw [HE.out];rfl,hb2⟩
 | true =>
  rw [h1] at HE
  go_enter Tryz.func218,Tryz.ntmps218
  go_wp2_with fail
  refine (HC.out _).mono ?_
  rintro e w' ⟨rfl,hd⟩
  have hb2:=hb.trans (hd.mono hb.size)
  clear hd hb
  go_wp2
  go_ret
  exact ⟨by rw [HE.out];rfl,hb2⟩
theorem on_any (b:Brd) (n:Nat) (r c:Int) (w:World) (hb0:b.Good n) :
  Calls Tryz.prog 193 #[.agg #[.int .i64 b.size,.string b.premium,.string b.cells],.agg #[.int .i64 r,.int .i64 c]] w fun e w'=>e=.returned (.bool (fullC (b.cell r c)))∧Below w.heap.size w w':=by
 have hb:Below w.heap.size w ((w.alloc (.cells #[.int .i64 b.size,.string b.premium,.string b.cells] 29)).alloc (.cells #[.int .i64 r,.int .i64 c] 192)):=((Below.refl _ _).alloc (Nat.le_refl _) _).alloc (by simp) _
 go_enter Tryz.func193,Tryz.ntmps193
 go_wp2_with fail
 refine (letter_any b n r c _ hb0).mono ?_
 rintro e w' ⟨rfl,hd⟩
 replace hb:=hb.trans (hd.mono hb.size)
 clear hd
 go_wp2
 go_ret
 exact ⟨rfl,hb⟩
end Go.Proofs.YtgphkffbbmmmmaaGreatDoor

namespace Go.Proofs.YtgphkffbbmmmmaaGreatDoor
open Go.ChangeShapes Go.WideShapes Go.ChangeAt Go.RowKit Go.Sort

def dirV (down:Bool):Value:=if down then .iface 247 (.agg #[]) else .iface 248 (.agg #[])
theorem directionOf_any (down:Bool) (w:World):Calls Tryz.prog 217 #[.bool down] w fun e w'=>e=.returned (dirV down)∧w=w':=by
 cases down
 ·go_enter Tryz.func217,Tryz.ntmps217
  go_wp2
  go_ret
  exact ⟨rfl,rfl⟩
 ·go_enter Tryz.func217,Tryz.ntmps217
  go_wp2
  go_ret
  exact ⟨rfl,rfl⟩
theorem rcross_any (w:World):Calls Tryz.prog 298 #[.agg #[]] w fun e w'=>e=.returned (dirV true)∧Below w.heap.size w w':=by
 go_enter Tryz.func298,Tryz.ntmps298
 go_wp2
 go_ret
 exact ⟨rfl,(Below.refl _ _).alloc (Nat.le_refl _) _⟩
theorem dcross_any (w:World):Calls Tryz.prog 296 #[.agg #[]] w fun e w'=>e=.returned (dirV false)∧Below w.heap.size w w':=by
 go_enter Tryz.func296,Tryz.ntmps296
 go_wp2
 go_ret
 exact ⟨rfl,(Below.refl _ _).alloc (Nat.le_refl _) _⟩
theorem rat_any (r c k:Int) (w:World) (h:-9223372036854775808≤c+k∧c+k≤9223372036854775807):Calls Tryz.prog 297 #[.agg #[],.int .i64 r,.int .i64 c,.int .i64 k] w fun e w'=>e=.returned (.agg #[.int .i64 r,.int .i64 (c+k)])∧Below w.heap.size w w':=by
 obtain ⟨h1,h2⟩:=h
 go_enter Tryz.func297,Tryz.ntmps297
 go_wp2
 go_returns
 exact ⟨rfl,by go_grown⟩
theorem dat_any (r c k:Int) (w:World) (h:-9223372036854775808≤r+k∧r+k≤9223372036854775807):Calls Tryz.prog 295 #[.agg #[],.int .i64 r,.int .i64 c,.int .i64 k] w fun e w'=>e=.returned (.agg #[.int .i64 (r+k),.int .i64 c])∧Below w.heap.size w w':=by
 obtain ⟨h1,h2⟩:=h
 go_enter Tryz.func295,Tryz.ntmps295
 go_wp2
 go_returns
 exact ⟨rfl,by go_grown⟩
/-! ### Plain: letters along a line -/
theorem let_ascii {c:UInt8} (h:letB (c.toNat:Int)=true):c.toNat < 128:=by
 unfold letB smallB capB at h
 simp only [Bool.or_eq_true,Bool.and_eq_true,decide_eq_true_eq] at h
 omega
end Go.Proofs.YtgphkffbbmmmmaaGreatDoor
