/- Contracts: the program's boards: whether one is valid, a square, what is on it. No condition but that a length fits an int; the squares: for valid boards. · Contracts: the program's directions. No condition. -/
import Derived.Test.YtgphkffbbmmmmaaGreatDoorBrA
import Derived.Test.YtgphkffbbmmmmaaGreatDoorShq
import Derived.Test.YtgphkffbbmmmmaaGreatDoorVar
import Derived.Test.YtgphkffbbmmmmaaGreatDoorBrD
import Derived.Laws.BytesArg
set_option maxRecDepth 100000
set_option maxHeartbeats 4000000
namespace Go.Proofs.YtgphkffbbmmmmaaGreatDoor
open Go.ChangeShapes Go.WideShapes Go.ChangeAt Go.RowKit Go.Sort

theorem prem_index:∀ c:Fin 256,decide (0≤Lib.indexByte [50,51,100,116,46] (UInt8.ofNat c.val))=premB (c.val:Int):=by decide
theorem prem_eq (c:UInt8):decide (0≤Lib.indexByte [50,51,100,116,46] c)=premB (c.toNat:Int):=by
 have:=prem_index ⟨c.toNat,c.toNat_lt⟩
 simpa using this
theorem premiumOk_any (c:UInt8) (w:World):Calls Tryz.prog 122 #[.int .u8 (c.toNat:Int)] w fun e w'=>e=.returned (.bool (premB c.toNat))∧w=w':=by
 have HP:=Lh (prem_eq c)
 have HS:Hid (∀ W,Calls Tryz.prog 158 #[.string ⟨#[50,51,100,116,46]⟩,.int .u8 (c.toNat:Int)] W fun e w'=>e=.returned (.int .i64 (Lib.indexByte [50,51,100,116,46] c))∧w'=W):=Lh (fun W=>by
  have:=Tryz.strings_IndexByte ⟨#[50,51,100,116,46]⟩ (c.toNat:Int) W
  rw [show ((c.toNat:Int)).toNat.toUInt8=c from by simp] at this
  exact this)
 generalize Lib.indexByte [50,51,100,116,46] c=z at *
 go_enter Tryz.func122,Tryz.ntmps122
 go_wp2_with fail
 refine (HS.out _).mono ?_
 rintro e w' ⟨rfl,rfl⟩
 go_wp2
 go_ret
 exact ⟨ret_bool HP.out,rfl⟩
theorem allPrem_any (s:ByteArray) (w:World) (hs:s.size≤9223372036854775807):Calls Tryz.prog 121 #[.string s,.func (.func 122) #[] #[]] w fun e w'=>e=.returned (.bool (allP s))∧w=w':=by
 show Calls _ _ _ _ fun e w'=>e=.returned (.bool (s.data.toList.all (fun c=>premB c.toNat)))∧w=w'
 obtain ⟨all,hall⟩:∃ all,all=s.data.toList.all (fun c=>premB c.toNat):=⟨_,rfl⟩
 rw [← hall]
 have HL:=Lh hall
 clear hall
 go_enter Tryz.func121,Tryz.ntmps121
 go_wp2
 go_loop [5] (fun i=>∃ k:Nat,k≤s.size∧i=.int .i64 k∧Hid (upTo premB s k)) (fun i=>s.size - (intOf i).toNat)
 case atStart=>exact ⟨0,Nat.zero_le _,rfl,Lh (upTo.zero _ _)⟩
 case round =>
  obtain ⟨k,hk,rfl,HA⟩:=hrel
  by_cases hlt:k < s.size
  ·cases hsm:premB s[k].toNat with
   | false =>
    have HN:Hid (all=false):=Lh (by rw [HL.out];exact all_get hlt hsm)
    go_wp2_with fail
    refine (premiumOk_any _ _).mono ?_
    rintro e w' ⟨rfl,rfl⟩
    rw [hsm]
    clear hsm
    go_wp2
    go_ret
    exact ⟨ret_bool HN.out.symm,rfl⟩
   | true =>
    have HN:Hid (upTo premB s (k+1)):=Lh (all_step hlt HA.out hsm)
    go_wp2_with fail
    refine (premiumOk_any _ _).mono ?_
    rintro e w' ⟨rfl,rfl⟩
    rw [hsm]
    clear hsm
    go_wp2
    go_round
    case rel=>exact ⟨k+1,by omega,by go_num,HN⟩
    case measure=>simp [intOf];omega
  ·have HN:Hid (all=true):=Lh (by rw [HL.out];exact all_end (k:=k) (by omega) HA.out)
   go_wp2
   go_ret
   exact ⟨ret_bool HN.out.symm,rfl⟩
theorem ValidBoard_any (b:Brd) (w:World) (hf:b.fit) :
  Calls Tryz.prog 84 #[.agg #[.int .i64 b.size,.string b.premium,.string b.cells]] w fun e w'=>e=.returned (.bool b.ok)∧Below w.heap.size w w':=by
 have hb:Below w.heap.size w (w.alloc (.cells #[.int .i64 b.size,.string b.premium,.string b.cells] 29)):=(Below.refl _ _).alloc (Nat.le_refl _) _
 obtain ⟨hf1,hf2⟩:=hf
 cases h1:withinB b.size 5 15 with
 | false =>
  have HN:=Lh (Brd.ok_size h1)
  have HI1:Hid (∀ W,Calls Tryz.prog 107 #[.int .i64 b.size] W fun e w'=>e=.returned (.bool false)∧W=w'):=Lh (fun W=>by have:=sizeOk_any b.size W;rwa [h1] at this)
  clear h1
  go_enter Tryz.func84,Tryz.ntmps84
  go_wp2_with (go_at_call 107;refine (HI1.out _).mono ?_;rintro e w' ⟨rfl,rfl⟩)
  go_ret
  exact ⟨ret_bool HN.out.symm,hb⟩
 | true =>
  have HN1:=Lh (Brd.ok_prem (b:=b))
  have HN2:=Lh (Brd.ok_cells (b:=b))
  have HY:=Lh (Brd.ok_eq (b:=b) h1)
  obtain ⟨n,hn,n5,n15⟩:=withinN h1
  have HI1:Hid (∀ W,Calls Tryz.prog 107 #[.int .i64 (n:Int)] W fun e w'=>e=.returned (.bool true)∧W=w'):=Lh (fun W=>by have:=sizeOk_any b.size W;rwa [h1,hn] at this)
  have HSZ:=Lh hn
  rw [hn] at hb
  rw [hn]
  obtain ⟨q,hq⟩:∃ q,q=n * n:=⟨_,rfl⟩
  have hqi:(n:Int) * (n:Int)=(q:Int):=by rw [hq];push_cast;rfl
  have hq3:q≤225:=by rw [hq];exact sq_mono n15
  have HQ:=Lh hqi
  clear h1 hn hq
  by_cases h3:b.premium.size=q
  ·have h4:((b.premium.size:Int) != (q:Int))=false:=by rw [h3];simp
   by_cases h5:b.cells.size=b.premium.size
   ·have h6:((b.cells.size:Int) != (b.premium.size:Int))=false:=by rw [h5];simp
    have HN0:Hid (b.ok=(allP b.premium && allC b.cells)):=Lh (HY.out (by rw [HSZ.out,HQ.out,h3]) h5)
    have H3:=Lh h3
    have H5:=Lh h5
    clear HN1 HN2 HY h3 h5
    cases hp:allP b.premium with
    | false =>
     have HN:Hid (b.ok=false):=Lh (by rw [HN0.out,hp];rfl)
     go_enter Tryz.func84,Tryz.ntmps84
     go_wp2_with fail
     refine (HI1.out _).mono ?_
     rintro e w' ⟨rfl,rfl⟩
     go_wp2_with fail
     refine (allPrem_any b.premium _ hf1).mono ?_
     rintro e w' ⟨rfl,rfl⟩
     rw [hp]
     clear hp
     go_wp2
     go_ret
     exact ⟨ret_bool HN.out.symm,hb⟩
    | true =>
     have HN:Hid (b.ok=allC b.cells):=Lh (by rw [HN0.out,hp];rfl)
     go_enter Tryz.func84,Tryz.ntmps84
     go_wp2_with fail
     refine (HI1.out _).mono ?_
     rintro e w' ⟨rfl,rfl⟩
     go_wp2_with fail
     refine (allPrem_any b.premium _ hf1).mono ?_
     rintro e w' ⟨rfl,rfl⟩
     rw [hp]
     clear hp
     go_wp2_with fail
     refine (allCell_any b.cells _ hf2).mono ?_
     rintro e w' ⟨rfl,rfl⟩
     go_wp2
     go_ret
     exact ⟨ret_bool HN.out.symm,hb⟩
   ·have h6:((b.cells.size:Int) != (b.premium.size:Int))=true:=by simp;omega
    have HN:Hid (b.ok=false):=Lh (HN2.out h5)
    have H3:=Lh h3
    clear HN1 HN2 HY h3 h5
    go_enter Tryz.func84,Tryz.ntmps84
    go_wp2_with (go_at_call 107;refine (HI1.out _).mono ?_;rintro e w' ⟨rfl,rfl⟩)
    go_ret
    exact ⟨ret_bool HN.out.symm,hb⟩
  ·have h4:((b.premium.size:Int) != (q:Int))=true:=by simp;omega
   have HN:Hid (b.ok=false):=Lh (HN1.out (by rw [HSZ.out,HQ.out];omega))
   clear HN1 HN2 HY h3
   go_enter Tryz.func84,Tryz.ntmps84
   go_wp2_with (go_at_call 107;refine (HI1.out _).mono ?_;rintro e w' ⟨rfl,rfl⟩)
   go_ret
   exact ⟨ret_bool HN.out.symm,hb⟩
end Go.Proofs.YtgphkffbbmmmmaaGreatDoor

namespace Go.Proofs.YtgphkffbbmmmmaaGreatDoor
open Go.ChangeShapes Go.WideShapes Go.ChangeAt Go.RowKit Go.Sort

end Go.Proofs.YtgphkffbbmmmmaaGreatDoor
