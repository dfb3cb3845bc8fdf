/- Contract: the reference makes a game by name. For every name, size, seed and rule. -/
import Derived.Test.YtgphkffbbmmmmaaGreatDoorMkJ
import Derived.Test.YtgphkffbbmmmmaaGreatDoorMkX
import Derived.Test.YtgphkffbbmmmmaaGreatDoorMkG
import Derived.Test.YtgphkffbbmmmmaaGreatDoorMkI
namespace Go.Proofs.YtgphkffbbmmmmaaGreatDoor
open Go.ChangeShapes Go.WideShapes Go.ChangeAt Go.RowKit Go.Sort

/-- a made game, or none, and a code -/
def MadePost (r:Gam × Int) (w:World) (e:Ending) (w':World):Prop :=
 ∃ q:GaA,e=.returned (.tuple #[.agg (gcells r.1 q).toArray,.int .i64 r.2])∧r.1.Z q w.heap.size w'∧r.1.Off q∧Below w.heap.size w w'
def qn:GaA:=⟨⟨⟨nrow,nrow⟩,nrow⟩,nrow,nrow,nrow⟩
theorem gnone_eq:gnone=gcells noGam qn:=rfl
theorem size_none:(Tryz.prog.info? 37).map (·.size)=some gnone.length:=by kernel_rfl
theorem gnone_all:∀ v∈gnone,v.oneCell'=true:=by rw [gnone_eq];exact gcells_all1 _ _
theorem none_zz (w:World) (base:Nat):noGam.Z qn base w:=⟨⟨.inl rfl,.inl rfl,.inl rfl⟩,.inl rfl,.inl rfl,.inl rfl⟩
theorem none_oo:noGam.Off qn:=⟨⟨offA_none _,offA_none _,offA_none _⟩,fun t _=>offA_none2 t,fun t _=>offA_none2 t,fun t _=>offA_none2 t,offA_none _,offA_none _,offA_none _⟩
theorem std_nz {z:Int} (h:withinB z 5 15=false):stdBoard z=(⟨0,⟨#[]⟩,⟨#[]⟩⟩,2):=by unfold stdBoard;rw [h];rfl
theorem std_yz {z:Int} (h:withinB z 5 15=true):stdBoard z=((stdBoard z).1,0):=by unfold stdBoard;rw [h];rfl
theorem made_fit {t:Tls} {z r:Int} (ht:t.Std) (hz:withinB z 5 15=true):(madeS t z r).fit:=by
 obtain ⟨h1,h2,h3⟩:=ht.len
 have h5:5≤z∧z≤15:=by simpa only [withinB,Bool.and_eq_true,decide_eq_true_eq] using hz
 obtain ⟨n,rfl⟩:∃ n:Nat,z=(n:Int):=⟨z.toNat,by omega⟩
 have hn:n * n≤225:=Nat.mul_le_mul (show n≤15 by omega) (show n≤15 by omega)
 have e:(madeS t n r).board=⟨n,mkB (stdL n),mkB (List.replicate (n * n) 46)⟩:=by unfold madeS stdBoard;rw [hz];rfl
 refine ⟨⟨by show t.letters.size≤_;omega,by show t.values.length≤_;omega,by show t.counts.length≤_;omega⟩,⟨by show stdWords.length≤_;decide,by show ∀ m∈stdWords,m.size≤_;decide⟩,?_⟩
 rw [e]
 exact ⟨by show (mkB (stdL n)).size≤_;rw [mkB_size,stdL_len];omega,by show (mkB (List.replicate (n * n) 46)).size≤_;rw [mkB_size,List.length_replicate];omega⟩
theorem made_small {t:Tls} (ht:t.Std) (z r:Int):(madeS t z r).small:=by
 obtain ⟨h1,h2,h3⟩:=ht.len
 exact ⟨⟨by show t.values.length≤_;omega,by show t.counts.length≤_;omega⟩,by show stdWords.length≤_;decide⟩
end Go.Proofs.YtgphkffbbmmmmaaGreatDoor
