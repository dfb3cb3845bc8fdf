/- Contracts: the program's boards: whether one is valid, a square, what is on it. No condition but that a length fits an int; the squares: for valid boards. · Contracts: the program's directions. No condition. -/
import Derived.Test.YtalnbgcdhcnjfaaGreatDoorBrA
import Derived.Test.YtalnbgcdhcnjfaaGreatDoorShq
import Derived.Test.YtalnbgcdhcnjfaaGreatDoorVar
import Derived.Test.YtalnbgcdhcnjfaaGreatDoorBrD
import Derived.Laws.BytesArg
set_option maxRecDepth 100000
set_option maxHeartbeats 4000000
namespace Go.Proofs.YtalnbgcdhcnjfaaGreatDoor
open Go.ChangeShapes Go.WideShapes Go.ChangeAt Go.RowKit Go.Sort

theorem prem_index:∀ c:Fin 256,decide (0≤Lib.indexByte [50,51,100,116,46] (UInt8.ofNat c.val))=premB (c.val:Int):=by decide
theorem prem_eq (c:UInt8):decide (0≤Lib.indexByte [50,51,100,116,46] c)=premB (c.toNat:Int):=by
 have:=prem_index ⟨c.toNat,c.toNat_lt⟩
 simpa using this
theorem premiumOk_any (c:UInt8) (w:World):Calls Tryz.prog 74 #[.int .u8 (c.toNat:Int)] w fun e w'=>e=.returned (.bool (premB c.toNat))∧w=w':=by
 have HP:=Lh (prem_eq c)
 have HS:Hid (∀ W,Calls Tryz.prog 101 #[.string ⟨#[50,51,100,116,46]⟩,.int .u8 (c.toNat:Int)] W fun e w'=>e=.returned (.int .i64 (Lib.indexByte [50,51,100,116,46] c))∧w'=W):=Lh (fun W=>by
  have:=Tryz.strings_IndexByte ⟨#[50,51,100,116,46]⟩ (c.toNat:Int) W
  rw [show ((c.toNat:Int)).toNat.toUInt8=c from by simp] at this
  exact this)
 generalize Lib.indexByte [50,51,100,116,46] c=z at *
 go_enter Tryz.func74,Tryz.ntmps74
 go_wp2_with fail
 refine (HS.out _).mono ?_
 rintro e w' ⟨rfl,rfl⟩
 go_wp2
 go_ret
 exact ⟨ret_bool HP.out,rfl⟩
theorem allPrem_any (s:ByteArray) (w:World) (hs:s.size≤9223372036854775807):Calls Tryz.prog 73 #[.string s,.func (.func 74) #[] #[]] w fun e w'=>e=.returned (.bool (allP s))∧w=w':=by
 show Calls _ _ _ _ fun e w'=>e=.returned (.bool (s.data.toList.all (fun c=>premB c.toNat)))∧w=w'
 obtain ⟨all,hall⟩:∃ all,all=s.data.toList.all (fun c=>premB c.toNat):=⟨_,rfl⟩
 rw [← hall]
 have HL:=Lh hall
 clear hall
 go_enter Tryz.func73,Tryz.ntmps73
 go_wp2
 go_loop [5] (fun i=>∃ k:Nat,k≤s.size∧i=.int .i64 k∧Hid (upTo premB s k)) (fun i=>s.size - (intOf i).toNat)
 case atStart=>exact ⟨0,Nat.zero_le _,rfl,Lh (upTo.zero _ _)⟩
 case round =>
  obtain ⟨k,hk,rfl,HA⟩:=hrel
  by_cases hlt:k < s.size
  ·cases hsm:premB s[k].toNat with
   | false =>
    have HN:Hid (all=false):=Lh (by rw [HL.out];exact all_get hlt hsm)
    go_wp2_with fail
    refine (premiumOk_any _ _).mono ?_
    rintro e w' ⟨rfl,rfl⟩
    rw [hsm]
    clear hsm
    go_wp2
    go_ret
    exact ⟨ret_bool HN.out.symm,rfl⟩
   | true =>
    have HN:Hid (upTo premB s (k+1)):=Lh (all_step hlt HA.out hsm)
    go_wp2_with fail
    refine (premiumOk_any _ _).mono ?_
    rintro e w' ⟨rfl,rfl⟩
    rw [hsm]
    clear hsm
    go_wp2
    go_round
    case rel=>exact ⟨k+1,by omega,by go_num,HN⟩
    case measure=>simp [intOf];omega
  ·have HN:Hid (all=true):=Lh (by rw [HL.out];exact all_end (k:=k) (by omega) HA.out)
   go_wp2
   go_ret
   exact ⟨ret_bool HN.out.symm,rfl⟩
theorem ValidBoard_any (b:Brd) (w:World) (hf:b.fit) :
  Calls Tryz.prog 40 #[.agg #[.int .i64 b.size,.string b.premium,.string b.cells]] w fun e w'=>e=.returned (.bool b.ok)∧Below w.heap.size w w':=by
 have hb:Below w.heap.size w (w.alloc (.cells #[.int .i64 b.size,.string b.premium,.string b.cells] 44)):=(Below.refl _ _).alloc (Nat.le_refl _) _
 obtain ⟨hf1,hf2⟩:=hf
 cases h1:withinB b.size 5 15 with
 | false =>
  have HN:=Lh (Brd.ok_size h1)
  have HI1:Hid (∀ W,Calls Tryz.prog 72 #[.int .i64 b.size] W fun e w'=>e=.returned (.bool false)∧W=w'):=Lh (fun W=>by have:=sizeOk_any b.size W;rwa [h1] at this)
  clear h1
  go_enter Tryz.func40,Tryz.ntmps40
  go_wp2_with (go_at_call 72;refine (HI1.out _).mono ?_;rintro e w' ⟨rfl,rfl⟩)
  go_ret
  exact ⟨ret_bool HN.out.symm,hb⟩
 | true =>
  have HN1:=Lh (Brd.ok_prem (b:=b))
  have HN2:=Lh (Brd.ok_cells (b:=b))
  have HY:=Lh (Brd.ok_eq (b:=b) h1)
  obtain ⟨n,hn,n5,n15⟩:=withinN h1
  have HI1:Hid (∀ W,Calls Tryz.prog 72 #[.int .i64 (n:Int)] W fun e w'=>e=.returned (.bool true)∧W=w'):=Lh (fun W=>by have:=sizeOk_any b.size W;rwa [h1,hn] at this)
  have HSZ:=Lh hn
  rw [hn] at hb
  rw [hn]
  obtain ⟨q,hq⟩:∃ q,q=n * n:=⟨_,rfl⟩
  have hqi:(n:Int) * (n:Int)=(q:Int):=by rw [hq];push_cast;rfl
  have hq3:q≤225:=by rw [hq];exact sq_mono n15
  have HQ:=Lh hqi
  clear h1 hn hq
  by_cases h3:b.premium.size=q
  ·have h4:((b.premium.size:Int) != (q:Int))=false:=by rw [h3];simp
   by_cases h5:b.cells.size=b.premium.size
   ·have h6:((b.cells.size:Int) != (b.premium.size:Int))=false:=by rw [h5];simp
    have HN0:Hid (b.ok=(allP b.premium && allC b.cells)):=Lh (HY.out (by rw [HSZ.out,HQ.out,h3]) h5)
    have H3:=Lh h3
    have H5:=Lh h5
    clear HN1 HN2 HY h3 h5
    cases hp:allP b.premium with
    | false =>
     have HN:Hid (b.ok=false):=Lh (by rw [HN0.out,hp];rfl)
     go_enter Tryz.func40,Tryz.ntmps40
     go_wp2_with fail
     refine (HI1.out _).mono ?_
     rintro e w' ⟨rfl,rfl⟩
     go_wp2_with fail
     refine (allPrem_any b.premium _ hf1).mono ?_
     rintro e w' ⟨rfl,rfl⟩
     rw [hp]
     clear hp
     go_wp2
     go_ret
     exact ⟨ret_bool HN.out.symm,hb⟩
    | true =>
     have HN:Hid (b.ok=allC b.cells):=Lh (by rw [HN0.out,hp];rfl)
     go_enter Tryz.func40,Tryz.ntmps40
     go_wp2_with fail
     refine (HI1.out _).mono ?_
     rintro e w' ⟨rfl,rfl⟩
     go_wp2_with fail
     refine (allPrem_any b.premium _ hf1).mono ?_
     rintro e w' ⟨rfl,rfl⟩
     rw [hp]
     clear hp
     go_wp2_with fail
     refine (allCell_any b.cells _ hf2).mono ?_
     rintro e w' ⟨rfl,rfl⟩
     go_wp2
     go_ret
     exact ⟨ret_bool HN.out.symm,hb⟩
   ·have h6:((b.cells.size:Int) != (b.premium.size:Int))=true:=by simp;omega
    have HN:Hid (b.ok=false):=Lh (HN2.out h5)
    have H3:=Lh h3
    clear HN1 HN2 HY h3 h5
    go_enter Tryz.func40,Tryz.ntmps40
    go_wp2_with (go_at_call 72;refine (HI1.out _).mono ?_;rintro e w' ⟨rfl,rfl⟩)
    go_ret
    exact ⟨ret_bool HN.out.symm,hb⟩
  ·have h4:((b.premium.size:Int) != (q:Int))=true:=by simp;omega
   have HN:Hid (b.ok=false):=Lh (HN1.out (by rw [HSZ.out,HQ.out];omega))
   clear HN1 HN2 HY h3
   go_enter Tryz.func40,Tryz.ntmps40
   go_wp2_with (go_at_call 72;refine (HI1.out _).mono ?_;rintro e w' ⟨rfl,rfl⟩)
   go_ret
   exact ⟨ret_bool HN.out.symm,hb⟩
theorem inside_any (b:Brd) (n:Nat) (r c:Int) (w:World) (hb0:b.Good n) :
  Calls Tryz.prog 162 #[.agg #[.int .i64 b.size,.string b.premium,.string b.cells],.int .i64 r,.int .i64 c] w fun e w'=>e=.returned (.bool (b.inB r c))∧Below w.heap.size w w':=by
 have HS:Hid (b.inB r c=(withinB r 0 ((n:Int) - 1) && withinB c 0 ((n:Int) - 1))):=Lh (by unfold Brd.inB;rw [hb0.size])
 have h15:=hb0.hi
 have h5:=hb0.lo
 rw [hb0.size]
 clear hb0
 have hb:Below w.heap.size w (w.alloc (.cells #[.int .i64 n,.string b.premium,.string b.cells] 44)):=(Below.refl _ _).alloc (Nat.le_refl _) _
 cases h1:withinB r 0 ((n:Int) - 1) with
 | false =>
  have HE:Hid (b.inB r c=false):=Lh (by rw [HS.out,h1];rfl)
  go_enter Tryz.func162,Tryz.ntmps162
  go_wp2_with fail
  refine (within_any _ _ _ _).mono ?_
  rintro e w' ⟨rfl,rfl⟩
  rw [h1]
  clear h1
  go_wp2
  go_ret
  exact ⟨ret_bool HE.out.symm,hb⟩
 | true =>
  have HE:Hid (b.inB r c=withinB c 0 ((n:Int) - 1)):=Lh (by rw [HS.out,h1];rfl)
  go_enter Tryz.func162,Tryz.ntmps162
  go_wp2_with fail
  refine (within_any _ _ _ _).mono ?_
  rintro e w' ⟨rfl,rfl⟩
  rw [h1]
  clear h1
  go_wp2_with fail
  refine (within_any _ _ _ _).mono ?_
  rintro e w' ⟨rfl,rfl⟩
  go_wp2
  go_ret
  exact ⟨ret_bool HE.out.symm,hb⟩
theorem cell_any (b:Brd) (n:Nat) (r c:Int) (w:World) (hb0:b.Good n) :
  Calls Tryz.prog 163 #[.agg #[.int .i64 b.size,.string b.premium,.string b.cells],.int .i64 r,.int .i64 c] w fun e w'=>e=.returned (.int .u8 ((b.cell r c).toNat:Int))∧Below w.heap.size w w':=by
 have HIN:Hid (∀ W,Calls Tryz.prog 162 #[.agg #[.int .i64 n,.string b.premium,.string b.cells],.int .i64 r,.int .i64 c] W fun e w'=>e=.returned (.bool (b.inB r c))∧Below W.heap.size W w'):=Lh (fun W=>by have:=inside_any b n r c W hb0;rwa [hb0.size] at this)
 cases hi:b.inB r c with
 | false =>
  have HE:Hid (b.cell r c=0):=Lh (Brd.cell_out hi)
  rw [hb0.size]
  have hb:Below w.heap.size w (w.alloc (.cells #[.int .i64 n,.string b.premium,.string b.cells] 44)):=(Below.refl _ _).alloc (Nat.le_refl _) _
  go_enter Tryz.func163,Tryz.ntmps163
  go_wp2_with fail
  refine (HIN.out _).mono ?_
  rintro e w' ⟨rfl,hd⟩
  rw [hi]
  go_wp2
  go_ret
  exact ⟨by rw [HE.out];rfl,hb.trans (hd.mono hb.size)⟩
 | true =>
  obtain ⟨i,j,q,rfl,rfl,hq,hqi,hl,hlt,hin,hjn,hc⟩:=hb0.place hi
  have HX:=Lh (hc hl)
  have h15:=hb0.hi
  rw [hb0.size]
  clear hb0 hc hq
  have hb:Below w.heap.size w (w.alloc (.cells #[.int .i64 n,.string b.premium,.string b.cells] 44)):=(Below.refl _ _).alloc (Nat.le_refl _) _
  have V:=Lh (VarAt.new w 44 [.int .i64 n,.string b.premium,.string b.cells])
  go_enter Tryz.func163,Tryz.ntmps163
  go_wp2_with fail
  refine (HIN.out _).mono ?_
  rintro e w' ⟨rfl,hd⟩
  rw [hi]
  clear hi
  replace hb:=hb.trans (hd.mono hb.size)
  replace V:=Lh (V.out.kept hd)
  have c0:=V.out.cell (i:=0) rfl
  have c2:=V.out.cell (i:=2) rfl
  clear V hd
  have w1:IntKind.i64.wrap (q:Int)=q:=IntWalk.i64_in _ (by omega)
  have w2:IntKind.i64.wrap ((q:Int)+(j:Int))=(q:Int)+j:=IntWalk.i64_in _ (by omega)
  have w3:((q:Int)+(j:Int)).toNat=q+j:=by omega
  have w4:(0:Int)≤(q:Int)+(j:Int):=by omega
  have w5:(q:Int)+(j:Int) < (b.cells.size:Int):=by omega
  go_wp2_with fail
  go_ret
  exact ⟨by rw [HX.out];rfl,hb⟩
theorem letter_any (b:Brd) (n:Nat) (r c:Int) (w:World) (hb0:b.Good n) :
  Calls Tryz.prog 165 #[.agg #[.int .i64 b.size,.string b.premium,.string b.cells],.int .i64 r,.int .i64 c] w fun e w'=>e=.returned (.bool (fullC (b.cell r c)))∧Below w.heap.size w w':=by
 have hb:Below w.heap.size w (w.alloc (.cells #[.int .i64 b.size,.string b.premium,.string b.cells] 44)):=(Below.refl _ _).alloc (Nat.le_refl _) _
 have HC:Hid (∀ W,Calls Tryz.prog 163 #[.agg #[.int .i64 b.size,.string b.premium,.string b.cells],.int .i64 r,.int .i64 c] W fun e w'=>e=.returned (.int .u8 ((b.cell r c).toNat:Int))∧Below W.heap.size W w'):=Lh (fun W=>cell_any b n r c W hb0)
 have HE:Hid (fullC (b.cell r c)=((((b.cell r c).toNat:Int) != 0) && (((b.cell r c).toNat:Int) != 46))):=Lh (full_int _)
 clear hb0
 generalize b.cell r c=x at *
 cases h1:((x.toNat:Int) != 0) with
 | false =>
  rw [h1] at HE
  go_enter Tryz.func165,Tryz.ntmps165
  go_wp2_with fail
  refine (HC.out _).mono ?_
  rintro e w' ⟨rfl,hd⟩
  have hb2:=hb.trans (hd.mono hb.size)
  clear hd hb
  go_wp2
  go_ret
  exact ⟨by rw [HE.out];rfl,hb2⟩
 | true =>
  rw [h1] at HE
  go_enter Tryz.func165,Tryz.ntmps165
  go_wp2_with fail
  refine (HC.out _).mono ?_
  rintro e w' ⟨rfl,hd⟩
  have hb2:=hb.trans (hd.mono hb.size)
  clear hd hb
  go_wp2
  go_ret
  exact ⟨by rw [HE.out];rfl,hb2⟩
theorem on_any (b:Brd) (n:Nat) (r c:Int) (w:World) (hb0:b.Good n) :
  Calls Tryz.prog 138 #[.agg #[.int .i64 b.size,.string b.premium,.string b.cells],.agg #[.int .i64 r,.int .i64 c]] w fun e w'=>e=.returned (.bool (fullC (b.cell r c)))∧Below w.heap.size w w':=by
 have hb:Below w.heap.size w ((w.alloc (.cells #[.int .i64 b.size,.string b.premium,.string b.cells] 44)).alloc (.cells #[.int .i64 r,.int .i64 c] 166)):=((Below.refl _ _).alloc (Nat.le_refl _) _).alloc (by simp) _
 go_enter Tryz.func138,Tryz.ntmps138
 go_wp2_with fail
 refine (letter_any b n r c _ hb0).mono ?_
 rintro e w' ⟨rfl,hd⟩
 replace hb:=hb.trans (hd.mono hb.size)
 clear hd
 go_wp2
 go_ret
 exact ⟨rfl,hb⟩
end Go.Proofs.YtalnbgcdhcnjfaaGreatDoor

namespace Go.Proofs.YtalnbgcdhcnjfaaGreatDoor
open Go.ChangeShapes Go.WideShapes Go.ChangeAt Go.RowKit Go.Sort

def dirV (down:Bool):Value:=if down then .iface 214 (.agg #[]) else .iface 215 (.agg #[])
theorem directionOf_any (down:Bool) (w:World):Calls Tryz.prog 164 #[.bool down] w fun e w'=>e=.returned (dirV down)∧w=w':=by
 cases down
 ·go_enter Tryz.func164,Tryz.ntmps164
  go_wp2
  go_ret
  exact ⟨rfl,rfl⟩
 ·go_enter Tryz.func164,Tryz.ntmps164
  go_wp2
  go_ret
  exact ⟨rfl,rfl⟩
theorem rcross_any (w:World):Calls Tryz.prog 234 #[.agg #[]] w fun e w'=>e=.returned (dirV true)∧Below w.heap.size w w':=by
 go_enter Tryz.func234,Tryz.ntmps234
 go_wp2
 go_ret
 exact ⟨rfl,(Below.refl _ _).alloc (Nat.le_refl _) _⟩
theorem dcross_any (w:World):Calls Tryz.prog 232 #[.agg #[]] w fun e w'=>e=.returned (dirV false)∧Below w.heap.size w w':=by
 go_enter Tryz.func232,Tryz.ntmps232
 go_wp2
 go_ret
 exact ⟨rfl,(Below.refl _ _).alloc (Nat.le_refl _) _⟩
theorem rat_any (r c k:Int) (w:World) (h:-9223372036854775808≤c+k∧c+k≤9223372036854775807):Calls Tryz.prog 233 #[.agg #[],.int .i64 r,.int .i64 c,.int .i64 k] w fun e w'=>e=.returned (.agg #[.int .i64 r,.int .i64 (c+k)])∧Below w.heap.size w w':=by
 obtain ⟨h1,h2⟩:=h
 go_enter Tryz.func233,Tryz.ntmps233
 go_wp2
 go_returns
 exact ⟨rfl,by go_grown⟩
theorem dat_any (r c k:Int) (w:World) (h:-9223372036854775808≤r+k∧r+k≤9223372036854775807):Calls Tryz.prog 231 #[.agg #[],.int .i64 r,.int .i64 c,.int .i64 k] w fun e w'=>e=.returned (.agg #[.int .i64 (r+k),.int .i64 c])∧Below w.heap.size w w':=by
 obtain ⟨h1,h2⟩:=h
 go_enter Tryz.func231,Tryz.ntmps231
 go_wp2
 go_returns
 exact ⟨rfl,by go_grown⟩
/-! ### Plain: letters along a line -/
theorem let_ascii {c:UInt8} (h:letB (c.toNat:Int)=true):c.toNat < 128:=by
 unfold letB smallB capB at h
 simp only [Bool.or_eq_true,Bool.and_eq_true,decide_eq_true_eq] at h
 omega
end Go.Proofs.YtalnbgcdhcnjfaaGreatDoor
