/- The statement FnExactMakeGame: games made by name. Leans on Go's tables and on strconv's t · Plain: what is asked of the games of FnMade. No condition. -/
import Derived.Test.YtgphkffbbmmmmaaGreatDoorMkN
import Derived.Test.YtgphkffbbmmmmaaGreatDoorGmW
import Derived.Test.YtgphkffbbmmmmaaGreatDoorMkV
import Derived.Test.YtgphkffbbmmmmaaGreatDoorSamGz
namespace Go.Proofs.YtgphkffbbmmmmaaGreatDoor
open Go.ChangeShapes Go.WideShapes Go.ChangeAt Go.RowKit Go.Sort

theorem startG_fine {s:Stp} {bag:List UInt8} (hf:s.fit) (hs:s.small) (hb:BagFor s.tiles bag):(startG s bag).fit∧(startG s bag).small:=by
 have hh:=hb.high
 have h0:(srtL (bag.take 7)).length≤120:=by rw [srt_len (all_tk hb.tiles 7),List.length_take];omega
 have h1:(srtL ((bag.take 14).drop 7)).length≤120:=by rw [srt_len (all_dp (all_tk hb.tiles 14) 7),List.length_drop,List.length_take];omega
 refine ⟨⟨hf,hf.2.2,?_,⟨by show 2≤9223372036854775807;omega,?_⟩,by show 2≤9223372036854775807;omega,by show 2≤9223372036854775807;omega,⟨by show (⟨#[]⟩:ByteArray).size≤_;decide,by show (⟨#[]⟩:ByteArray).size≤_;decide,by show (⟨#[]⟩:ByteArray).size≤_;decide⟩⟩,⟨hs,by show 2≤1048576;omega,by show 2≤1048576;omega,by show 2≤1048576;omega⟩⟩
 ·show (mkB (bag.drop 14)).size≤_
  rw [mkB_size,List.length_drop]
  omega
 ·intro m hm
  have hm2:m∈[mkB (srtL (bag.take 7)),mkB (srtL ((bag.take 14).drop 7))]:=hm
  simp only [List.mem_cons,List.not_mem_nil,or_false] at hm2
  rcases hm2 with rfl | rfl
  ·rw [mkB_size];omega
  ·rw [mkB_size];omega
end Go.Proofs.YtgphkffbbmmmmaaGreatDoor
namespace Go.Proofs.YtgphkffbbmmmmaaGreatDoor
open Go.ChangeShapes Go.WideShapes Go.ChangeAt Go.RowKit Go.Sort

theorem same_self (x:Gam):sameG x x=true:=by
 simp [sameG,sameS,sameT,boardSame,boardEq,lastEq]
def startLine:ByteArray:=⟨#[48,32,48,32,48,32,49,32,48]⟩
/-- what FnMade asks of a game of a size -/
structure MadeG (x:Gam) (z:Int):Prop where
 ok:x.ok=true
 fit:x.fit
 small:x.small
 letters:x.setup.tiles.letters.size≤1048576
 word:x.last.play.word.size≤1048576
 len:(x.lines.1.length:Int)=z+3
 code:x.lines.2=0
 last:x.lines.1[z.toNat+2]?=some startLine
 score:mkB x.scoreL=startLine
theorem small_len:(allL smallT).length=15:=by decide
theorem start_line {s:Stp} {bag:List UInt8} (hl:bag.length=15):mkB (startG s bag).lineL=startLine:=by
 have h1:(mkB (bag.drop 14)).size=1:=by rw [mkB_size,List.length_drop,hl]
 show mkB (overL (lineOf 0 0 0 ((mkB (bag.drop 14)).size:Nat) 0) false)=_
 rw [h1]
 kernel_rfl
theorem made_start {z s r:Int} (hz:5≤z∧z≤15) (hs:0≤s∧s≤2147483647) (hr:0≤r∧r≤3) :
  ∃ x,makeG smallN z s r=(x,0)∧MadeG x z:=by
 have hz2:withinB z 5 15=true:=by simp only [withinB,Bool.and_eq_true,decide_eq_true_eq];exact hz
 have hs2:withinB s 0 2147483647=true:=by simp only [withinB,Bool.and_eq_true,decide_eq_true_eq];exact hs
 have hr2:withinB r 0 3=true:=by simp only [withinB,Bool.and_eq_true,decide_eq_true_eq];exact hr
 have hall:(withinB z 5 15 && (withinB r 0 3 && withinB s 0 2147483647))=true:=by rw [hz2,hs2,hr2];rfl
 have htn:tileName smallN=some smallT:=by
  unfold tileName
  rw [if_neg (by decide),if_pos rfl]
 have hm:=make_good htn hall
 have hbag:=shuf_bag std_small s.toNat
 have hlen:(shuf s.toNat (allL smallT)).length=15:=by rw [(shuf_perm s.toNat (allL smallT)).length_eq,small_len]
 have hok:(madeS smallT z r).ok=true:=made_ok std_small hz2 hr2
 generalize shuf s.toNat (allL smallT)=bag at *
 have hgok:=start_ok hok hbag
 have hfine:=startG_fine (made_fit std_small (r:=r) hz2) (made_small std_small z r) hbag
 refine ⟨startG (madeS smallT z r) bag,hm,⟨hgok,hfine.1,hfine.2,?_,?_,?_,?_,?_,?_⟩⟩
 ·show smallT.letters.size≤_;decide
 ·show (⟨#[]⟩:ByteArray).size≤_;decide
 ·rw [Gam.lines1 hgok]
  show ((startG (madeS smallT z r) bag).linesL.length:Int)=_
  rw [Gam.linesL_len]
  have:(startG (madeS smallT z r) bag).board.size=z:=by
   show (stdBoard z).1.size=z
   unfold stdBoard;rw [hz2];rfl
  rw [this]
  omega
 ·rw [Gam.lines1 hgok]
 ·rw [Gam.lines1 hgok]
  have hb:(startG (madeS smallT z r) bag).board.size=z:=by
   show (stdBoard z).1.size=z
   unfold stdBoard;rw [hz2];rfl
  show (startG (madeS smallT z r) bag).linesL[z.toNat+2]?=_
  unfold Gam.linesL
  rw [List.getElem?_append_right (by rw [rowsB_len,hb];omega),rowsB_len,hb]
  rw [show z.toNat+2 - z.toNat=2 by omega]
  show some (mkB (startG (madeS smallT z r) bag).lineL)=_
  rw [start_line hlen]
 ·show mkB (startG (madeS smallT z r) bag).scoreL=_
  unfold Gam.scoreL
  rw [if_pos hgok,start_line hlen]
end Go.Proofs.YtgphkffbbmmmmaaGreatDoor
