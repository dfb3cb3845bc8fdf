/- Contracts: the program's letters on a board, blank boards, whether a play touches; Touches · Contracts: the program's tiles that a play places, the codes of plays, LegalPlay. Go's tab -/
import Derived.Test.YtgphkffbbmmmmaaGreatDoorToA
import Derived.Test.YtgphkffbbmmmmaaGreatDoorLgF
import Derived.Test.YtgphkffbbmmmmaaGreatDoorPlbC
import Derived.Test.YtgphkffbbmmmmaaGreatDoorShq
import Derived.Test.YtgphkffbbmmmmaaGreatDoorLgD
namespace Go.Proofs.YtgphkffbbmmmmaaGreatDoor
open Go.ChangeShapes Go.WideShapes Go.ChangeAt Go.RowKit Go.Sort

/-- the cell of internal/bytealg's MaxLen holds a number -/
def EnvL (w:World):Prop:=∃ m:Int,w.cell? ⟨0,0,none⟩=some (.int .i64 m)
theorem EnvL.kept {w w':World} (h:EnvL w) (hb:Below w.heap.size w w'):EnvL w':=by
 obtain ⟨m,hm⟩:=h
 exact ⟨m,cell_kept hm hb⟩
theorem drop_dot (s:ByteArray):(⟨(Lib.replaceAll s.data.toList (⟨#[46]⟩:ByteArray).data.toList (⟨#[]⟩:ByteArray).data.toList).toArray⟩:ByteArray)=mkB (lettersL s.data.toList):=by
 have:=replaceAll_drop 46 s.data.toList
 show (⟨(Lib.replaceAll s.data.toList [46] []).toArray⟩:ByteArray)=_
 rw [this]
 rfl
theorem lettersOn_any (b:Brd) (w:World) (hs:b.cells.size≤225) (he:EnvL w) :
  Calls Tryz.prog 126 #[.agg #[.int .i64 b.size,.string b.premium,.string b.cells]] w (StrPost w (lettersL b.cells.data.toList)):=by
 have hb:Below w.heap.size w (w.alloc (.cells #[.int .i64 b.size,.string b.premium,.string b.cells] 29)):=(Below.refl _ _).alloc (Nat.le_refl _) _
 have VB:=Lh (VarAt.new w 29 [.int .i64 b.size,.string b.premium,.string b.cells])
 obtain ⟨m,hm⟩:=he.kept hb
 have HRA:Hid (Calls Tryz.prog 161 #[.string b.cells,.string ⟨#[46]⟩,.string ⟨#[]⟩] (w.alloc (.cells #[.int .i64 b.size,.string b.premium,.string b.cells] 29)) fun e w'=>e=.returned (.string (mkB (lettersL b.cells.data.toList)))∧Below (w.alloc (.cells #[.int .i64 b.size,.string b.premium,.string b.cells] 29)).heap.size (w.alloc (.cells #[.int .i64 b.size,.string b.premium,.string b.cells] 29)) w'):=Lh (by
  rw [← drop_dot]
  exact Tryz.strings_ReplaceAll b.cells ⟨#[46]⟩ ⟨#[]⟩ m _ (by omega) hm (by decide) (by
   have:Lib.countB b.cells ⟨#[46]⟩ * (⟨#[]⟩:ByteArray).size=0:=by rw [show (⟨#[]⟩:ByteArray).size=0 from rfl,Nat.mul_zero]
   omega))
 clear hm
 go_enter Tryz.func126,Tryz.ntmps126
 go_upto_region 1 with fail
 generalize w.alloc (.cells #[.int .i64 b.size,.string b.premium,.string b.cells] 29)=w1 at *
 have c2:=VB.out.cell (i:=2) rfl
 go_wp2_with fail
 refine (HRA.out).mono ?_
 rintro e w3 ⟨rfl,hd⟩
 replace hb:=hb.trans (hd.mono hb.size)
 clear hd c2
 go_wp2
 go_ret
 exact ⟨rfl,hb⟩
theorem blank_any (b:Brd) (w:World) (hs:b.cells.size≤225) (he:EnvL w) :
  Calls Tryz.prog 114 #[.agg #[.int .i64 b.size,.string b.premium,.string b.cells]] w fun e w'=>e=.returned (.bool b.blank)∧Below w.heap.size w w':=by
 have hb:Below w.heap.size w (w.alloc (.cells #[.int .i64 b.size,.string b.premium,.string b.cells] 29)):=(Below.refl _ _).alloc (Nat.le_refl _) _
 have VB:=Lh (VarAt.new w 29 [.int .i64 b.size,.string b.premium,.string b.cells])
 have HE:=Lh (he.kept hb)
 have HBD:Hid (b.blank=(mkB (lettersL b.cells.data.toList)).toList.isEmpty):=Lh (by rw [empty_cmp];unfold Brd.blank;rw [mkB_size])
 go_enter Tryz.func114,Tryz.ntmps114
 go_upto_region 1 with fail
 generalize w.alloc (.cells #[.int .i64 b.size,.string b.premium,.string b.cells] 29)=w1 at *
 have c0:=VB.out.cell (i:=0) rfl
 have c1:=VB.out.cell (i:=1) rfl
 have c2:=VB.out.cell (i:=2) rfl
 go_wp2_with fail
 refine (lettersOn_any b _ hs HE.out).mono ?_
 rintro e w3 ⟨rfl,hd⟩
 replace hb:=hb.trans (hd.mono hb.size)
 clear hd c0 c1 c2
 generalize mkB (lettersL b.cells.data.toList)=sl at *
 go_wp2
 go_ret
 exact ⟨by rw [HBD.out];rfl,hb⟩
end Go.Proofs.YtgphkffbbmmmmaaGreatDoor
namespace Go.Proofs.YtgphkffbbmmmmaaGreatDoor
open Go.ChangeShapes Go.WideShapes Go.ChangeAt Go.RowKit Go.Sort

end Go.Proofs.YtgphkffbbmmmmaaGreatDoor
