/- Contracts: the program's letters on a board, blank boards, whether a play touches; Touches · Contracts: the program's tiles that a play places, the codes of plays, LegalPlay. Go's tab -/
import Derived.Test.YtalnbgcdhcnjfaaGreatDoorToA
import Derived.Test.YtalnbgcdhcnjfaaGreatDoorLgF
import Derived.Test.YtalnbgcdhcnjfaaGreatDoorPlbC
import Derived.Test.YtalnbgcdhcnjfaaGreatDoorShq
import Derived.Test.YtalnbgcdhcnjfaaGreatDoorLgD
namespace Go.Proofs.YtalnbgcdhcnjfaaGreatDoor
open Go.ChangeShapes Go.WideShapes Go.ChangeAt Go.RowKit Go.Sort

/-- the cell of internal/bytealg's MaxLen holds a number -/
def EnvL (w:World):Prop:=∃ m:Int,w.cell? ⟨0,0,none⟩=some (.int .i64 m)
theorem EnvL.kept {w w':World} (h:EnvL w) (hb:Below w.heap.size w w'):EnvL w':=by
 obtain ⟨m,hm⟩:=h
 exact ⟨m,cell_kept hm hb⟩
theorem drop_dot (s:ByteArray):(⟨(Lib.replaceAll s.data.toList (⟨#[46]⟩:ByteArray).data.toList (⟨#[]⟩:ByteArray).data.toList).toArray⟩:ByteArray)=mkB (lettersL s.data.toList):=by
 have:=replaceAll_drop 46 s.data.toList
 show (⟨(Lib.replaceAll s.data.toList [46] []).toArray⟩:ByteArray)=_
 rw [this]
 rfl
theorem lettersOn_any (b:Brd) (w:World) (hs:b.cells.size≤225) (he:EnvL w) :
  Calls Tryz.prog 79 #[.agg #[.int .i64 b.size,.string b.premium,.string b.cells]] w (StrPost w (lettersL b.cells.data.toList)):=by
 have hb:Below w.heap.size w (w.alloc (.cells #[.int .i64 b.size,.string b.premium,.string b.cells] 44)):=(Below.refl _ _).alloc (Nat.le_refl _) _
 have VB:=Lh (VarAt.new w 44 [.int .i64 b.size,.string b.premium,.string b.cells])
 obtain ⟨m,hm⟩:=he.kept hb
 have HRA:Hid (Calls Tryz.prog 106 #[.string b.cells,.string ⟨#[46]⟩,.string ⟨#[]⟩] (w.alloc (.cells #[.int .i64 b.size,.string b.premium,.string b.cells] 44)) fun e w'=>e=.returned (.string (mkB (lettersL b.cells.data.toList)))∧Below (w.alloc (.cells #[.int .i64 b.size,.string b.premium,.string b.cells] 44)).heap.size (w.alloc (.cells #[.int .i64 b.size,.string b.premium,.string b.cells] 44)) w'):=Lh (by
  rw [← drop_dot]
  exact Tryz.strings_ReplaceAll b.cells ⟨#[46]⟩ ⟨#[]⟩ m _ (by omega) hm (by decide) (by
   have:Lib.countB b.cells ⟨#[46]⟩ * (⟨#[]⟩:ByteArray).size=0:=by rw [show (⟨#[]⟩:ByteArray).size=0 from rfl,Nat.mul_zero]
   omega))
 clear hm
 go_enter Tryz.func79,Tryz.ntmps79
 go_upto_region 1 with fail
 generalize w.alloc (.cells #[.int .i64 b.size,.string b.premium,.string b.cells] 44)=w1 at *
 have c2:=VB.out.cell (i:=2) rfl
 go_wp2_with fail
 refine (HRA.out).mono ?_
 rintro e w3 ⟨rfl,hd⟩
 replace hb:=hb.trans (hd.mono hb.size)
 clear hd c2
 go_wp2
 go_ret
 exact ⟨rfl,hb⟩
theorem blank_any (b:Brd) (w:World) (hs:b.cells.size≤225) (he:EnvL w) :
  Calls Tryz.prog 71 #[.agg #[.int .i64 b.size,.string b.premium,.string b.cells]] w fun e w'=>e=.returned (.bool b.blank)∧Below w.heap.size w w':=by
 have hb:Below w.heap.size w (w.alloc (.cells #[.int .i64 b.size,.string b.premium,.string b.cells] 44)):=(Below.refl _ _).alloc (Nat.le_refl _) _
 have VB:=Lh (VarAt.new w 44 [.int .i64 b.size,.string b.premium,.string b.cells])
 have HE:=Lh (he.kept hb)
 have HBD:Hid (b.blank=(mkB (lettersL b.cells.data.toList)).toList.isEmpty):=Lh (by rw [empty_cmp];unfold Brd.blank;rw [mkB_size])
 go_enter Tryz.func71,Tryz.ntmps71
 go_upto_region 1 with fail
 generalize w.alloc (.cells #[.int .i64 b.size,.string b.premium,.string b.cells] 44)=w1 at *
 have c0:=VB.out.cell (i:=0) rfl
 have c1:=VB.out.cell (i:=1) rfl
 have c2:=VB.out.cell (i:=2) rfl
 go_wp2_with fail
 refine (lettersOn_any b _ hs HE.out).mono ?_
 rintro e w3 ⟨rfl,hd⟩
 replace hb:=hb.trans (hd.mono hb.size)
 clear hd c0 c1 c2
 generalize mkB (lettersL b.cells.data.toList)=sl at *
 go_wp2
 go_ret
 exact ⟨by rw [HBD.out];rfl,hb⟩
end Go.Proofs.YtalnbgcdhcnjfaaGreatDoor
namespace Go.Proofs.YtalnbgcdhcnjfaaGreatDoor
open Go.ChangeShapes Go.WideShapes Go.ChangeAt Go.RowKit Go.Sort

theorem own_natAt {t:TypeId} {w:World} {base g n cap:Nat} {l:List Nat} (h:w.ownsRow base t 1 (.slice (some ⟨g,0,none⟩) n cap) n (l.flatMap N64.enc)) {i:Nat} (hi:i < n) (hl:n=l.length):w.cell? ⟨g,i,none⟩=some (.int .i64 ((l[i]'(by omega):Nat):Int)):=by
 have h1:=h.cellAt i (by omega)
 have h2:=flatMap_get (enc:=N64.enc) (sz:=1) (fun _=>rfl) l (i:=i) (by omega) (j:=0) (by omega)
 rw [Nat.mul_one,Nat.add_zero] at h2
 rw [h1,h2]
 rfl
/-- both boxes: a board and a play -/
theorem PGood.placed_let {b:Brd} {p:Ply} {n:Nat} (h:PGood b p n):(placedB p.word (b.fresh p)).all (fun c=>letB c.toNat)=true:=by
 rw [List.all_eq_true]
 intro d hd
 unfold placedB at hd
 obtain ⟨i,hi,rfl⟩:=List.mem_map.1 hd
 have hl:=(freshL_lt hi).1
 rw [u8_byte hl]
 exact (List.all_eq_true.1 h.letters) _ (by rw [← bytes_get p.word i hl];exact List.getElem_mem _)
theorem rack_tiles {l:List UInt8} (h:rackOk l=true):l.all tileB=true:=by
 have h1:=(pileOk_iff.1 (rack_pile h).1).1
 rw [List.all_eq_true]
 intro c hc
 obtain ⟨j,hj,rfl⟩:=List.getElem_of_mem hc
 have:=h1 j hj
 rwa [u8_at hj] at this
end Go.Proofs.YtalnbgcdhcnjfaaGreatDoor
