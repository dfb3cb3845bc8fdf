/- Contracts: the reference's tests on tiles, piles and racks. No condition but that a length fits an int. · Contracts: the program's tests on tiles, piles and racks. No condition but that a length fits an int. · Contracts: the reference's sorting of tiles, taking tiles from a pile, tiles of letters. For texts of at most a megabyte. -/
import Derived.Test.YtgphkffbbmmmmaaGreatDoorLgP
import Derived.Test.YtgphkffbbmmmmaaGreatDoorBrD
import Derived.Test.YtgphkffbbmmmmaaGreatDoorByt
set_option maxRecDepth 100000
set_option maxHeartbeats 8000000
namespace Go.Proofs.YtgphkffbbmmmmaaGreatDoor
open Go.ChangeShapes Go.WideShapes Go.ChangeAt Go.RowKit Go.Sort

theorem l03Tile_any (c:Int) (w:World):Calls Tryz.prog 102 #[.int .u8 c] w fun e w'=>e=.returned (.bool (tileI c))∧w=w':=by
 by_cases h:c=63
 ·subst h
  go_enter Tryz.func102,Tryz.ntmps102
  go_wp2
  go_ret
  exact ⟨rfl,rfl⟩
 ·go_enter Tryz.func102,Tryz.ntmps102
  go_wp2_with fail
  refine (l01Small_any _ _).mono ?_
  rintro e w' ⟨rfl,rfl⟩
  go_wp2
  go_ret
  exact ⟨ret_bool rfl,rfl⟩
end Go.Proofs.YtgphkffbbmmmmaaGreatDoor

namespace Go.Proofs.YtgphkffbbmmmmaaGreatDoor
open Go.ChangeShapes Go.WideShapes Go.ChangeAt Go.RowKit Go.Sort

theorem plI_63 {c:UInt8} (h:(c.toNat:Int)=63):plI c=0:=by unfold plI;rw [if_pos (by omega)]
theorem plI_small {c:UInt8} (h:¬ (c.toNat:Int)=63) (hs:smallB c.toNat=true):plI c=(c.toNat:Int) - 97+1∧97≤(c.toNat:Int)∧(c.toNat:Int)≤122:=by
 refine ⟨by unfold plI;rw [if_neg (by omega),if_pos hs],?_⟩
 unfold smallB at hs
 rwa [Bool.and_eq_true,decide_eq_true_eq,decide_eq_true_eq] at hs
theorem plI_none {c:UInt8} (h:¬ (c.toNat:Int)=63) (hs:smallB c.toNat=false):plI c=-1:=by
 unfold plI;rw [if_neg (by omega),if_neg (by rw [hs];decide)]
theorem place_any (c:UInt8) (w:World):Calls Tryz.prog 150 #[.int .u8 (c.toNat:Int)] w fun e w'=>e=.returned (.int .i64 (plI c))∧w=w':=by
 by_cases h:(c.toNat:Int)=63
 ·have HN:=Lh (plI_63 h)
  go_enter Tryz.func150,Tryz.ntmps150
  go_wp2
  go_ret
  exact ⟨ret_int HN.out.symm,rfl⟩
 ·cases hs:smallB (c.toNat:Int) with
  | true =>
   obtain ⟨h1,h2,h3⟩:=plI_small h hs
   have HN:=Lh h1
   clear h1
   go_enter Tryz.func150,Tryz.ntmps150
   go_wp2_with fail
   refine (small_any _ _).mono ?_
   rintro e w' ⟨rfl,rfl⟩
   rw [hs]
   clear hs
   go_wp2
   go_ret
   exact ⟨ret_int (by rw [HN.out]),rfl⟩
  | false =>
   have HN:=Lh (plI_none h hs)
   go_enter Tryz.func150,Tryz.ntmps150
   go_wp2_with fail
   refine (small_any _ _).mono ?_
   rintro e w' ⟨rfl,rfl⟩
   rw [hs]
   clear hs
   go_wp2
   go_ret
   exact ⟨ret_int HN.out.symm,rfl⟩
theorem tileAt_any (k:Nat) (hk:k < 27) (w:World):Calls Tryz.prog 152 #[.int .i64 (k:Int)] w fun e w'=>e=.returned (.int .u8 ((tileC k).toNat:Int))∧w=w':=by
 have HN:=Lh (tileC_nat hk)
 generalize (tileC k).toNat=t at *
 by_cases h:k=0
 ·subst h
  go_enter Tryz.func152,Tryz.ntmps152
  go_wp2
  go_ret
  exact ⟨ret_int (by rw [HN.out];rfl),rfl⟩
 ·have h1:¬ (k:Int)=0:=by omega
  have h2:((97+(k:Int) - 1) % 256)=96+(k:Int):=by omega
  go_enter Tryz.func152,Tryz.ntmps152
  go_wp2
  go_ret
  exact ⟨ret_int (by rw [HN.out,if_neg h];omega),rfl⟩
theorem onlyTiles_any (s:ByteArray) (w:World) (hs:s.size≤9223372036854775807):Calls Tryz.prog 115 #[.string s] w fun e w'=>e=.returned (.bool (s.data.toList.all tileB))∧w=w':=by
 have HNO:=Lh (fun k (h:k < s.size) (hp:tileI (s[k].toNat:Int)=false)=>all_get (s:=s) (p:=tileB) (k:=k) h hp)
 have HEND:=Lh (fun k (h:s.size≤k) (hp:upTo tileI s k)=>all_end (s:=s) (p:=tileB) (k:=k) h hp)
 have HNG:=Lh (fun k (h:k < s.size)=>plI_neg (c:=s[k]))
 generalize s.data.toList.all tileB=res at *
 go_enter Tryz.func115,Tryz.ntmps115
 go_wp2
 go_loop [3] (fun i=>∃ k:Nat,k≤s.size∧i=.int .i64 k∧Hid (upTo tileI s k)) (fun i=>s.size - (intOf i).toNat)
 case atStart=>exact ⟨0,Nat.zero_le _,rfl,Lh (upTo.zero _ _)⟩
 case round =>
  obtain ⟨k,hk,rfl,HA⟩:=hrel
  by_cases hlt:k < s.size
  ·have hng:=HNG.out k hlt
   cases h1:tileI (s[k].toNat:Int) with
   | true =>
    have HN:Hid (upTo tileI s (k+1)):=Lh (all_step hlt HA.out h1)
    have hn:decide (plI s[k] < 0)=false:=by rw [hng];unfold tileB;rw [h1];rfl
    clear hng h1
    go_wp2_with fail
    refine (place_any _ _).mono ?_
    rintro e w' ⟨rfl,rfl⟩
    generalize plI s[k]=v at *
    have hn2:¬ v < 0:=of_decide_eq_false hn
    clear hn
    go_wp2
    go_round
    case rel=>exact ⟨k+1,by omega,by go_num,HN⟩
    case measure=>simp [intOf];omega
   | false =>
    have HN:Hid (res=false):=Lh (HNO.out k hlt h1)
    have hn:decide (plI s[k] < 0)=true:=by rw [hng];unfold tileB;rw [h1];rfl
    clear hng h1
    go_wp2_with fail
    refine (place_any _ _).mono ?_
    rintro e w' ⟨rfl,rfl⟩
    generalize plI s[k]=v at *
    have hn2:v < 0:=of_decide_eq_true hn
    clear hn
    go_wp2
    go_ret
    exact ⟨ret_bool HN.out.symm,rfl⟩
  ·have HN:Hid (res=true):=Lh (HEND.out k (by omega) HA.out)
   go_wp2
   go_ret
   exact ⟨ret_bool HN.out.symm,rfl⟩
/-! ### The program's piles -/
/-- ascending so far -/
def UO (l:List UInt8) (k:Nat):Prop:=∀ j,j < k→0 < j→(l.getD (j - 1) 0).toNat≤(l.getD j 0).toNat
theorem UO.one (l:List UInt8):UO l 1:=fun j h h0=>by omega
theorem UO.step {s:ByteArray} {k:Nat} (h:UO s.data.toList (k+1)) (hk:k+1 < s.size) (ho:¬ (s[k].toNat:Int) > (s[k+1].toNat:Int)):UO s.data.toList (k+1+1):=by
 intro j hj h0
 by_cases e:j=k+1
 ·subst e
  rw [Nat.add_sub_cancel,u8_byte hk,u8_byte (by omega)]
  omega
 ·exact h j (by omega) h0
end Go.Proofs.YtgphkffbbmmmmaaGreatDoor

namespace Go.Proofs.YtgphkffbbmmmmaaGreatDoor
open Go.ChangeShapes Go.WideShapes Go.ChangeAt Go.RowKit Go.Sort

/-! ### Rows of bytes that were appended to -/
def insR (R:List UInt8) (k:Nat) (z:UInt8):List UInt8:=R.take k++z :: R.drop k
theorem insR_len (R:List UInt8) (k:Nat) (z:UInt8):(insR R k z).length=R.length+1:=by
 unfold insR
 rw [List.length_append,List.length_cons,List.length_take,List.length_drop]
 omega
theorem insR_end (R:List UInt8) (z:UInt8) {k:Nat} (hk:k=R.length):insR R k z=R++[z]:=by
 subst hk
 unfold insR
 rw [List.take_length,List.drop_length]
theorem insR_set {R:List UInt8} {k:Nat} (hk:k≤R.length) (z c:UInt8):(insR R k z).set k c=insR R k c:=by
 unfold insR
 have hl:(R.take k).length=k:=by rw [List.length_take];omega
 rw [List.set_append_right _ _ (by omega),hl,Nat.sub_self]
 rfl
theorem insR_get {R:List UInt8} {i:Nat} (hi:i < R.length) (z:UInt8):(insR R (i+1) z)[i]?=some R[i]:=by
 unfold insR
 rw [List.getElem?_append_left (by rw [List.length_take];omega),List.getElem?_take_of_lt (by omega),List.getElem?_eq_getElem hi]
theorem insR_move {R:List UInt8} {i:Nat} (hi:i < R.length):insR R (i+1) R[i]=insR R i R[i]:=by
 unfold insR
 rw [List.take_succ_eq_append_getElem hi,List.append_assoc,List.singleton_append,← List.drop_eq_getElem_cons hi]
theorem own_byteAt {w:World} {base g n cap:Nat} {l:List UInt8} (h:w.ownsRow base 5 1 (.slice (some ⟨g,0,none⟩) n cap) n (l.flatMap U8.enc)) {i:Nat} (hi:i < n) {c:UInt8} (hc:l[i]?=some c):w.cell? ⟨g,i,none⟩=some (.int .u8 (c.toNat:Int)):=by
 rw [h.cellAt i (by omega),u8_flat,List.getElem?_map,hc]
 rfl
theorem own_byteSet {w:World} {base g n cap:Nat} {l:List UInt8} (h:w.ownsRow base 5 1 (.slice (some ⟨g,0,none⟩) n cap) n (l.flatMap U8.enc)) (i:Nat) (c:UInt8) :
  (w.setCell ⟨g,i,none⟩ (.int .u8 (c.toNat:Int))).ownsRow base 5 1 (.slice (some ⟨g,0,none⟩) n cap) n ((l.set i c).flatMap U8.enc)∧w.grownBy (w.setCell ⟨g,i,none⟩ (.int .u8 (c.toNat:Int))) (some g):=by
 obtain ⟨h1,h2⟩:=h.stored i (.int .u8 (c.toNat:Int))
 refine ⟨?_,h2⟩
 rw [u8_flat,List.map_set,← u8_flat]
 exact h1

/-- a sorted text with the same tiles -/
def SortPost (w:World) (l:List UInt8) (e:Ending) (w':World):Prop :=
 ∃ R:List UInt8,e=.returned (.string (mkB R))∧SortedT R∧R.Perm l∧Below w.heap.size w w'
theorem insR_at {R:List UInt8} {k:Nat} (hk:k≤R.length) (z:UInt8):(insR R k z)[k]?=some z:=by
 unfold insR
 rw [List.getElem?_append_right (by rw [List.length_take];omega),List.length_take,Nat.min_eq_left hk,Nat.sub_self]
 rfl
theorem l03Sort_any (s:ByteArray) (w:World) (hs:s.size≤1048576):Calls Tryz.prog 63 #[.string s] w (SortPost w s.data.toList):=by
 obtain ⟨i0,hi0,hi1,hi2,hi3⟩:=info_parts infoByte
 have hd0:Below w.heap.size w (w.alloc (.cells #[] 5)):=(Below.refl _ _).alloc (Nat.le_refl _) _
 have HO:Hid ((w.alloc (.cells #[] 5)).ownsRow w.heap.size 5 1 (.slice (some ⟨w.heap.size,0,none⟩) 0 0) 0 (([]:List UInt8).flatMap U8.enc)):=Lh (
  World.ownsRow_made (base:=w.heap.size) (e:=5) (size:=1) w #[] 0 (Nat.le_refl _) (by unfold maxLen;omega) rfl)
 have hb:=hd0
 clear hd0
 go_enter Tryz.func63,Tryz.ntmps63
 go_wp2_with fail
 go_loopw [3,4] (fun ov iv wr=>∃ (k g1 cap:Nat) (R:List UInt8),k≤s.size∧iv=.int .i64 k∧ov=.slice (some ⟨g1,0,none⟩) k cap∧Hid (R.length=k)∧Hid (SortedT R)∧Hid (R.Perm (s.data.toList.take k))∧Hid (wr.ownsRow w.heap.size 5 1 (.slice (some ⟨g1,0,none⟩) k cap) k (R.flatMap U8.enc))∧Below w.heap.size w wr) (fun _ iv _=>s.size - (intOf iv).toNat)
 case atStart=>exact ⟨0,_,0,[],Nat.zero_le _,rfl,rfl,Lh rfl,Lh List.Pairwise.nil,Lh (List.Perm.refl _),HO,hb⟩
 case round =>
  clear HO hb
  obtain ⟨k,g1,cap,R,hk,rfl,rfl,HRL,HRS,HRP,HO,hb⟩:=hrel
  by_cases hk2:k < s.size
  ·have hz2:=hb.size
   have hx:Below wr.heap.size wr (wr.alloc (.cells #[.int .u8 ((s[k].toNat:Int))] 5)):=(Below.refl _ _).alloc (Nat.le_refl _) _
   have KN:=Lh (new_byte wr (s[k]) 5)
   replace HO:=Lh (own_below HO.out hx)
   replace hb:=hb.trans (hx.mono hb.size)
   have HSP:Hid (∀ j,(insR R j s[k]).Perm (s.data.toList.take (k+1))):=Lh (fun j=>by
    rw [show s.data.toList.take (k+1)=s.data.toList.take k++[s[k]] from List.take_succ_eq_append_getElem (by simpa using hk2)]
    exact perm_ins HRP.out)
   go_wp2_with (at_builtin;go_must (refine wpList_append_lies _ rfl (.tmp 15) (.tmp 19) 49 rfl w.heap.size 5 i0 _ 1 1 Tryz.underlying49 hi0 hi1 hi2 hi3 rfl (by decide) _ k (R.flatMap U8.enc) (by rfl) HO.out ⟨wr.heap.size,0,none⟩ 1 1 (U8.enc (s[k])) (by rfl) rfl KN.out (u8_one1 (s[k])) (by decide) ?c1 ?c2 ?c3 _ rfl ?_))
   case c1=>unfold maxLen;omega
   case c2=>omega
   case c3=>(first | omega | (simp only [World.size_alloc];omega))
   intro g7 cap7 w7 hown hgr hwh hlt7
   replace hb:=hb.grown hgr hb.size (fun q e=>by have:=(HO.out.lt q e).1;omega)
   replace HO:Hid (w7.ownsRow w.heap.size 5 1 (.slice (some ⟨g7,0,none⟩) (k+1) cap7) (k+1) ((insR R k s[k]).flatMap U8.enc)):=Lh (by rw [insR_end R _ HRL.out.symm,snoc_flat U8.enc];exact hown)
   have hg7:w.heap.size≤g7:=(HO.out.lt g7 rfl).1
   clear hown hgr hwh KN hlt7 HRP hz2 hx
   go_wp2
   go_loopw [5] (fun jv wr=>∃ (j:Nat) (z:UInt8),j≤k∧jv=.int .i64 j∧Hid (∀ x∈R.drop j,s[k].toNat < x.toNat)∧Hid (wr.ownsRow w.heap.size 5 1 (.slice (some ⟨g7,0,none⟩) (k+1) cap7) (k+1) ((insR R j z).flatMap U8.enc))∧Below w.heap.size w wr) (fun jv _=>(intOf jv).toNat)
   case atStart=>exact ⟨k,s[k],Nat.le_refl _,rfl,Lh (fun x hx=>by rw [List.drop_of_length_le (by rw [HRL.out];exact Nat.le_refl _)] at hx;cases hx),HO,hb⟩
   case round =>
    clear HO hb
    obtain ⟨j,z,hj,rfl,HD,HO,hb⟩:=hrel
    match j,hj,HD,HO with
    | 0,hj,HD,HO =>
     have HSO:Hid (SortedT (insR R 0 s[k])):=Lh (sort_ins HRS.out (Nat.zero_le _) HD.out (fun h=>by omega))
     go_wp2_with fail
     go_quiet (fail)
     have hd:Below wr.heap.size wr (wr.drewN nq):=(Drew.drewN (Drew.refl _) nq).below _
     replace hb:=hb.trans (hd.mono hb.size)
     replace HO:=Lh (own_below HO.out hd)
     generalize wr.drewN nq=wa at *
     obtain ⟨o1,k1⟩:=own_byteSet HO.out (0) s[k]
     have HO7:Hid ((wa.setCell ⟨g7,0,none⟩ (.int .u8 (s[k].toNat:Int))).ownsRow w.heap.size 5 1 (.slice (some ⟨g7,0,none⟩) (k+1) cap7) (k+1) ((insR R (0) s[k]).flatMap U8.enc)):=Lh (by rw [← insR_set (by rw [HRL.out];omega) z s[k]];exact o1)
     have hb7:Below w.heap.size w (wa.setCell ⟨g7,0,none⟩ (.int .u8 (s[k].toNat:Int))):=hb.grown k1 hb.size (fun q h=>by cases h;exact hg7)
     have c0:wa.cell? ⟨g7,0,none⟩=some (.int .u8 (z.toNat:Int)):=own_byteAt HO.out (by omega) (insR_at (by rw [HRL.out];omega) z)
     have f0:=HO.out.frozenAt (0)
     clear o1 k1 hd HO hb
     go_wp2
     go_roundw
     case rel=>exact ⟨k+1,g7,cap7,insR R (0) s[k],by omega,by go_num,rfl,Lh (by rw [insR_len,HRL.out]),HSO,Lh (HSP.out _),HO7,hb7⟩
     case measure=>simp [intOf];omega
    | i+1,hj,HD,HO =>
     have hir:i < R.length:=by rw [HRL.out];omega
     have hj1:((i+1:Nat):Int) - 1=(i:Int):=by omega
     have hj2:(0:Int) < ((i+1:Nat):Int):=by omega
     have r0:wr.cell? ⟨g7,i,none⟩=some (.int .u8 (R[i].toNat:Int)):=own_byteAt HO.out (by omega) (insR_get hir z)
     by_cases hgt:(R[i].toNat:Int) > (s[k].toNat:Int)
     ·have HD2:Hid (∀ x∈R.drop i,s[k].toNat < x.toNat):=Lh (drop_ins hir _ HD.out (by omega))
      go_wp2_with fail
      go_quiet (fail)
      have hd:Below wr.heap.size wr (wr.drewN nq):=(Drew.drewN (Drew.refl _) nq).below _
      replace hb:=hb.trans (hd.mono hb.size)
      replace HO:=Lh (own_below HO.out hd)
      replace r0:=cell_kept r0 hd
      generalize wr.drewN nq=wa at *
      obtain ⟨o1,k1⟩:=own_byteSet HO.out (i+1) R[i]
      have HO7:Hid ((wa.setCell ⟨g7,i+1,none⟩ (.int .u8 (R[i].toNat:Int))).ownsRow w.heap.size 5 1 (.slice (some ⟨g7,0,none⟩) (k+1) cap7) (k+1) ((insR R i R[i]).flatMap U8.enc)):=Lh (by rw [← insR_move hir,← insR_set (by omega) z R[i]];exact o1)
      have hb7:Below w.heap.size w (wa.setCell ⟨g7,i+1,none⟩ (.int .u8 (R[i].toNat:Int))):=hb.grown k1 hb.size (fun q h=>by cases h;exact hg7)
      have c0:wa.cell? ⟨g7,i+1,none⟩=some (.int .u8 (z.toNat:Int)):=own_byteAt HO.out (by omega) (insR_at (by omega) z)
      have f0:=HO.out.frozenAt (i+1)
      clear o1 k1 hd HO hb
      generalize R[i]=y at *
      go_wp2
      go_roundw
      case rel=>exact ⟨i,y,by omega,by go_num,HD2,HO7,hb7⟩
      case measure=>simp [intOf]
     ·have HSO:Hid (SortedT (insR R (i+1) s[k])):=Lh (sort_ins HRS.out (by omega) HD.out (fun h=>by show R[i].toNat≤s[k].toNat;omega))
      go_wp2_with fail
      go_quiet (fail)
      clear r0
      have hd:Below wr.heap.size wr (wr.drewN nq):=(Drew.drewN (Drew.refl _) nq).below _
      replace hb:=hb.trans (hd.mono hb.size)
      replace HO:=Lh (own_below HO.out hd)
      generalize wr.drewN nq=wa at *
      obtain ⟨o1,k1⟩:=own_byteSet HO.out (i+1) s[k]
      have HO7:Hid ((wa.setCell ⟨g7,i+1,none⟩ (.int .u8 (s[k].toNat:Int))).ownsRow w.heap.size 5 1 (.slice (some ⟨g7,0,none⟩) (k+1) cap7) (k+1) ((insR R (i+1) s[k]).flatMap U8.enc)):=Lh (by rw [← insR_set (by rw [HRL.out];omega) z s[k]];exact o1)
      have hb7:Below w.heap.size w (wa.setCell ⟨g7,i+1,none⟩ (.int .u8 (s[k].toNat:Int))):=hb.grown k1 hb.size (fun q h=>by cases h;exact hg7)
      have c0:wa.cell? ⟨g7,i+1,none⟩=some (.int .u8 (z.toNat:Int)):=own_byteAt HO.out (by omega) (insR_at (by rw [HRL.out];omega) z)
      have f0:=HO.out.frozenAt (i+1)
      clear o1 k1 hd HO hb
      go_wp2
      go_roundw
      case rel=>exact ⟨k+1,g7,cap7,insR R (i+1) s[k],by omega,by go_num,rfl,Lh (by rw [insR_len,HRL.out]),HSO,Lh (HSP.out _),HO7,hb7⟩
      case measure=>simp [intOf];omega
  ·obtain rfl:k=s.size:=by omega
   have hcv:=own_bytes HO.out HRL.out.symm
   clear HO
   go_wp2
   go_ret
   exact ⟨R,rfl,HRS.out,by have:=HRP.out;rwa [List.take_of_length_le (by simp)] at this,hb⟩
end Go.Proofs.YtgphkffbbmmmmaaGreatDoor
