/- Contract: strings.Split at one byte, in plain words. Leans on the variable MaxLen of inter · Contracts: the standard words, the reference's and the program's. Leans on the variable Ma · Plain: a game that is made by name. No condition. -/
import Derived.Test.YtgphkffbbmmmmaaGreatDoorVar
import Derived.Test.YtgphkffbbmmmmaaGreatDoorMkU
import Derived.Test.YtgphkffbbmmmmaaGreatDoorShq
import Derived.Test.YtgphkffbbmmmmaaGreatDoorMkS
import Derived.Test.YtgphkffbbmmmmaaGreatDoorMkA
import Derived.Test.YtgphkffbbmmmmaaGreatDoorGmM
namespace Go.Proofs.YtgphkffbbmmmmaaGreatDoor
open Go.ChangeShapes Go.WideShapes Go.ChangeAt Go.RowKit Go.Sort

/-- the variable that the library's searches read -/
def EnvM (w:World):Prop:=∃ m:Int,w.cell? ⟨0,0,none⟩=some (.int .i64 m)
theorem EnvM.kept {w w':World} (h:EnvM w) (hb:Below w.heap.size w w'):EnvM w':=by
 obtain ⟨m,hm⟩:=h
 exact ⟨m,cell_kept hm hb⟩
theorem own_new_texts (w:World) (xs:List ByteArray) (t:TypeId) (hl:xs.length≤1099511627776):(w.alloc (.cells (xs.map Value.string).toArray t)).ownsRow w.heap.size t 1 (.slice (some ⟨w.heap.size,0,none⟩) xs.length xs.length) xs.length (xs.flatMap Tx.enc):=by
 have e:xs.flatMap Tx.enc=xs.map Value.string:=by
  clear hl
  induction xs with
  | nil=>rfl
  | cons x xs ih=>rw [List.flatMap_cons,ih];rfl
 rw [e]
 exact ⟨by simp,.inr ⟨w.heap.size,xs.length,(xs.map Value.string).toArray,rfl,Nat.le_refl _,heap_alloc_new w _,Nat.le_refl _,by unfold maxLen;omega,by simp,by rw [Nat.mul_one];simp [List.take_of_length_le]⟩⟩
/-- The library's Split at a blank, as the reference's parts. -/
theorem splitM_any (s:ByteArray) (c:UInt8) (w:World) (he:EnvM w) (hs:s.size≤1048576):Calls Tryz.prog 75 #[.string s,.string ⟨#[c]⟩] w (TextsPost w ((splitL c s.data.toList).map mkB)):=by
 obtain ⟨m,hm⟩:=he
 refine (Any.strings_Split { Tryz.laysM146 with } Tryz.laysM146.i9 s ⟨#[c]⟩ m w (by omega) hm (Nat.le_refl _)).mono ?_
 rintro e w' ⟨rfl,rfl⟩
 have hcnt:Lib.countB s ⟨#[c]⟩+1=((splitL c s.data.toList).map mkB).length:=by
  rw [List.length_map,splitL_len,← Lib.count_one]
 have hx:Lib.splitB ⟨#[c]⟩ 0 (Lib.countB s ⟨#[c]⟩) s=(splitL c s.data.toList).map mkB:=by
  rw [← split_tie c _ s rfl,List.map_map]
  rw [show (mkB ∘ fun x:ByteArray=>x.data.toList)=id from funext mkB_of,List.map_id]
 have hl:((splitL c s.data.toList).map mkB).length≤1099511627776:=by
  rw [List.length_map,splitL_len]
  have:=List.count_le_length (a:=c) (l:=s.data.toList)
  have e2:s.data.toList.length=s.size:=Array.length_toList
  omega
 rw [hcnt,hx]
 exact ⟨_,_,rfl,own_new_texts w _ _ hl,(Below.refl _ _).alloc (Nat.le_refl _) _⟩
end Go.Proofs.YtgphkffbbmmmmaaGreatDoor
set_option maxRecDepth 100000
namespace Go.Proofs.YtgphkffbbmmmmaaGreatDoor
open Go.ChangeShapes Go.WideShapes Go.ChangeAt Go.RowKit Go.Sort

def stdWords:List ByteArray:=[⟨#[97,110]⟩,⟨#[97,110,116]⟩,⟨#[97,110,116,115]⟩,⟨#[97,114,101]⟩,⟨#[97,115]⟩,⟨#[97,116]⟩,⟨#[97,116,101]⟩,⟨#[101,97,114]⟩,⟨#[101,97,114,110]⟩,⟨#[101,97,116]⟩,⟨#[101,97,116,115]⟩,⟨#[101,110]⟩,⟨#[101,114]⟩,⟨#[101,115]⟩,⟨#[110,101]⟩,⟨#[110,101,97,114]⟩,⟨#[110,101,115,116]⟩,⟨#[110,101,116]⟩,⟨#[114,97,116]⟩,⟨#[114,97,116,101]⟩,⟨#[114,101,115,116]⟩,⟨#[115,97,116]⟩,⟨#[115,101,97]⟩,⟨#[115,101,97,116]⟩,⟨#[115,101,116]⟩,⟨#[116,97]⟩,⟨#[116,97,114]⟩,⟨#[116,101,97]⟩,⟨#[116,101,110]⟩,⟨#[116,101,114,110]⟩,⟨#[116,101,115,116]⟩]
def stdText:ByteArray:=⟨#[97,110,32,97,110,116,32,97,110,116,115,32,97,114,101,32,97,115,32,97,116,32,97,116,101,32,101,97,114,32,101,97,114,110,32,101,97,116,32,101,97,116,115,32,101,110,32,101,114,32,101,115,32,110,101,32,110,101,97,114,32,110,101,115,116,32,110,101,116,32,114,97,116,32,114,97,116,101,32,114,101,115,116,32,115,97,116,32,115,101,97,32,115,101,97,116,32,115,101,116,32,116,97,32,116,97,114,32,116,101,97,32,116,101,110,32,116,101,114,110,32,116,101,115,116]⟩
theorem std_split:(splitL 32 stdText.data.toList).map mkB=stdWords:=by kernel_rfl
theorem StandardWords_any (w:World) (he:EnvM w):Calls Tryz.prog 33 #[] w (TextsPost w stdWords):=by
 have H:Hid (Calls Tryz.prog 75 #[.string stdText,.string ⟨#[32]⟩] w (TextsPost w stdWords)):=Lh (by
  have h:=splitM_any stdText 32 w he (by decide)
  rwa [std_split] at h)
 go_enter Tryz.func33,Tryz.ntmps33
 go_wp2_with fail
 refine H.out.mono ?_
 rintro e w2 ⟨g,cap,rfl,ho,hd⟩
 go_wp2
 go_ret
 exact ⟨g,cap,rfl,ho,hd⟩
end Go.Proofs.YtgphkffbbmmmmaaGreatDoor
namespace Go.Proofs.YtgphkffbbmmmmaaGreatDoor
open Go.ChangeShapes Go.WideShapes Go.ChangeAt Go.RowKit Go.Sort

def noLst:Lst:=⟨0,0,⟨0,0,false,⟨#[]⟩⟩,⟨#[]⟩,⟨#[]⟩,0,0⟩
def noBrd:Brd:=⟨0,⟨#[]⟩,⟨#[]⟩⟩
def noStp:Stp:=⟨tlsNone,[],noBrd,0,0⟩
def noGam:Gam:=⟨noStp,noBrd,⟨#[]⟩,[],[],[],0,0,noLst,false⟩
/-- a game at its start -/
def startG (s:Stp) (bag:List UInt8):Gam:=⟨s,s.board,mkB (bag.drop 14),[mkB (srtL (bag.take 7)),mkB (srtL ((bag.take 14).drop 7))],[0,0],[s.seconds,s.seconds],0,0,noLst,false⟩
def madeS (t:Tls) (size rule:Int):Stp:=⟨t,stdWords,(stdBoard size).1,600,rule⟩
def tileName (s:ByteArray):Option Tls:=if s.data.toList=englishN.data.toList then some englishT else if s.data.toList=smallN.data.toList then some smallT else none
/-- what is made by name -/
def makeG (name:ByteArray) (size seed rule:Int):Gam × Int:=match tileName name with
 | none=>(noGam,3)
 | some t=>if (withinB size 5 15 && (withinB rule 0 3 && withinB seed 0 2147483647))=true then (startG (madeS t size rule) (shuf seed.toNat (allL t)),0) else (noGam,2)
/-- what is asked of a tile set of a made game -/
structure Tls.Std (t:Tls):Prop where
 ok:t.ok=true
 low:14≤(allL t).length
 high:(allL t).length≤120
 tiles:(allL t).all tileB=true
 srt:srtL (allL t)=allL t
 len:t.letters.size≤26∧t.values.length≤26∧t.counts.length≤26
theorem std_small:smallT.Std:=⟨small_ok,by decide,by decide,by kernel_rfl,by kernel_rfl,by decide⟩
theorem std_english:englishT.Std:=⟨english_ok,of_decide_eq_true (by kernel_rfl),of_decide_eq_true (by kernel_rfl),by kernel_rfl,by kernel_rfl,by decide⟩
theorem tileName_std {s:ByteArray} {t:Tls} (h:tileName s=some t):t.Std:=by
 unfold tileName at h
 split at h
 ·cases h;exact std_english
 ·split at h
  ·cases h;exact std_small
  ·cases h
theorem boards_ok:(List.range 11).all (fun k=>(stdBoard ((5+k:Nat):Int)).1.ok && (stdBoard ((5+k:Nat):Int)).1.blank)=true:=by kernel_rfl
theorem board_std {z:Int} (h:withinB z 5 15=true):(stdBoard z).1.ok=true∧(stdBoard z).1.blank=true:=by
 have h5:5≤z∧z≤15:=by simpa only [withinB,Bool.and_eq_true,decide_eq_true_eq] using h
 have hk:=List.all_eq_true.1 boards_ok (z - 5).toNat (List.mem_range.2 (by omega))
 have e:((5+(z - 5).toNat:Nat):Int)=z:=by omega
 rw [e,Bool.and_eq_true] at hk
 exact hk
theorem words_ok:lexOk stdWords=true:=by kernel_rfl
theorem made_ok {t:Tls} {z r:Int} (ht:t.Std) (hz:withinB z 5 15=true) (hr:withinB r 0 3=true):(madeS t z r).ok=true:=by
 have hb:=board_std hz
 unfold madeS Stp.ok
 simp only [ht.ok,words_ok,hb.1,hb.2,hr,Bool.true_and]
 rfl
/-- what is asked of a bag at the start -/
structure BagFor (t:Tls) (bag:List UInt8):Prop where
 ok:bagOk bag=true
 srt:srtL bag=allL t
 low:14≤bag.length
 high:bag.length≤120
 tiles:bag.all tileB=true
theorem shuf_bag {t:Tls} (ht:t.Std) (x:Nat):BagFor t (shuf x (allL t)):=by
 have hp:=shuf_perm x (allL t)
 have hl:=hp.length_eq
 have ha:(shuf x (allL t)).all tileB=true:=by rw [all_perm hp];exact ht.tiles
 refine ⟨?_,?_,?_,?_,ha⟩
 ·unfold bagOk
  rw [ha,hl]
  simpa using ht.high
 ·rw [srt_congr hp];exact ht.srt
 ·rw [hl];exact ht.low
 ·rw [hl];exact ht.high
theorem make_none {n:ByteArray} {z s r:Int} (h:tileName n=none):makeG n z s r=(noGam,3):=by unfold makeG;rw [h]
theorem make_bad {n:ByteArray} {t:Tls} {z s r:Int} (h:tileName n=some t) (h2:(withinB z 5 15 && (withinB r 0 3 && withinB s 0 2147483647))=false):makeG n z s r=(noGam,2):=by
 unfold makeG;rw [h];exact if_neg (by rw [h2];exact Bool.false_ne_true)
theorem make_good {n:ByteArray} {t:Tls} {z s r:Int} (h:tileName n=some t) (h2:(withinB z 5 15 && (withinB r 0 3 && withinB s 0 2147483647))=true):makeG n z s r=(startG (madeS t z r) (shuf s.toNat (allL t)),0):=by
 unfold makeG;rw [h];exact if_pos h2
end Go.Proofs.YtgphkffbbmmmmaaGreatDoor
