/- Contracts: DeskText, of the reference and of the program. Rows lie there; for the program: Go's tables hold what is laid (CEnv, Tab), MaxLen a number (EnvL). -/
import Derived.Test.YtalnbgcdhcnjfaaGreatDoorDkA
import Derived.Test.YtalnbgcdhcnjfaaGreatDoorGsB
set_option maxRecDepth 100000
set_option maxHeartbeats 4000000
namespace Go.Proofs.YtalnbgcdhcnjfaaGreatDoor
open Go.ChangeShapes Go.WideShapes Go.ChangeAt Go.RowKit Go.Sort

theorem specDeskText_any (x:Gam) (p:GaA) (w:World) (ha:x.At p w) (hf:x.fit) :
  Calls Tryz.prog 10 #[.agg (gcells x p).toArray] w fun e w'=>e=.returned (.string (mkB x.scoreL))∧Below w.heap.size w w':=by
 have hb:Below w.heap.size w (w.alloc (.cells (gcells x p).toArray 53)):=(Below.refl _ _).alloc (Nat.le_refl _) _
 have V:=Lh (VarAt.new w 53 (gcells x p))
 have HC:=Lh (specScoreLine_any x p _ (Gam.At.kept ha hb) hf)
 have HSZ:=Lh (size_game x p)
 clear ha hf
 unfold StrPost at HC
 change Hid (Calls Tryz.prog 17 #[.agg (gcells x p).toArray] _ _) at HC
 generalize gcells x p=gc at *
 generalize (mkB x.scoreL)=r0 at *
 go_enter Tryz.func10,Tryz.ntmps10
 go_upto_region 1 with fail
 generalize w.alloc (.cells gc.toArray 53)=w1 at *
 have RG:=V.out.range
 go_wp2_with (refine wpList_load_mid rfl 51 _ rfl w.heap.size 0 rfl gc _ RG Tryz.underlying51 rfl HSZ.out ?_)
 clear RG
 refine HC.out.mono ?_
 rintro e w2 ⟨rfl,hd⟩
 replace hb:=hb.trans (hd.mono hb.size)
 clear hd V HC HSZ
 go_wp2
 go_ret
 exact ⟨rfl,hb⟩
theorem implDeskText_any (x:Gam) (p:GaA) (w:World) (ha:x.At p w) (hf:x.fit) (htz:x.setup.tiles.letters.size≤1048576) (hwz:x.last.play.word.size≤1048576) (hE:CEnv w) (hL:EnvL w) (ht:Tab w) :
  Calls Tryz.prog 11 #[.agg (gcells x p).toArray] w fun e w'=>e=.returned (.string (mkB x.scoreL))∧Below w.heap.size w w':=by
 have hb:Below w.heap.size w (w.alloc (.cells (gcells x p).toArray 53)):=(Below.refl _ _).alloc (Nat.le_refl _) _
 have V:=Lh (VarAt.new w 53 (gcells x p))
 have HC:=Lh (implScoreLine_any x p _ (Gam.At.kept ha hb) hf htz hwz (hE.kept hb) (hL.kept hb) (ht.kept hb))
 have HSZ:=Lh (size_game x p)
 clear ha hf htz hwz hE hL ht
 unfold StrPost at HC
 change Hid (Calls Tryz.prog 18 #[.agg (gcells x p).toArray] _ _) at HC
 generalize gcells x p=gc at *
 generalize (mkB x.scoreL)=r0 at *
 go_enter Tryz.func11,Tryz.ntmps11
 go_upto_region 1 with fail
 generalize w.alloc (.cells gc.toArray 53)=w1 at *
 have RG:=V.out.range
 go_wp2_with (refine wpList_load_mid rfl 51 _ rfl w.heap.size 0 rfl gc _ RG Tryz.underlying51 rfl HSZ.out ?_)
 clear RG
 refine HC.out.mono ?_
 rintro e w2 ⟨rfl,hd⟩
 replace hb:=hb.trans (hd.mono hb.size)
 clear hd V HC HSZ
 go_wp2
 go_ret
 exact ⟨rfl,hb⟩
end Go.Proofs.YtalnbgcdhcnjfaaGreatDoor
