/- The walks of lex.number and scanner.next. The walk of scanner.next. The walk of lex.Scan. The program's Scan, of every text; what its tokens are in memory. The walks of the reference's package 2: bytes, signs. Tokens written one behind the other, with a blank between: plain Lean. Names, in plain Lean. -/
import Derived.Test.YtpcihajmcejliacGreatDoorShelf
import Derived.Deep.OwnRows
import Derived.RegionTactic
import Derived.ChangeAlike
import Derived.WalkLawsBesides
import Derived.Lib.IndexMore
import Derived.Test.YtpcihajmcejliacGreatDoorLexNumm
namespace Go.Proofs.YtpcihajmcejliacGreatDoor
open Go.RowKit
def ErrVar (w:World):Prop:=∃ tp p,w.var? Tryz.prog "strconv.ErrRange" = some #[.iface tp p]
theorem ErrVar.named:Tryz.prog.globalNamed "strconv.ErrRange" = some 6:=by kernel_rfl
theorem ErrVar.lt {w:World} (h:ErrVar w):6 < w.heap.size:=by
 obtain⟨tp,p,h⟩:=h;simp only [World.var?,ErrVar.named,Option.bind_some] at h;rcases Nat.lt_or_ge 6 w.heap.size with h'|h'
 ·exact h'
 ·rw [Array.getElem?_eq_none h'] at h;cases h
theorem ErrVar.aO {S:Nat→Prop} {w w':World} (h:ErrVar w) (hc:aB S w w') (hn:¬ S 6):ErrVar w':=by
 have hl:=h.lt;obtain⟨tp,p,h⟩:=h;refine⟨tp,p,?_⟩
 simp only [World.var?,ErrVar.named,Option.bind_some] at h ⊢;rw [hc.block _ hl hn];exact h
theorem ErrVar.ext {w w':World} (h:ErrVar w) (hc:Ext w w'):ErrVar w':=h.aO hc id
namespace lex
def uu (k:Int) (t:ByteArray) (a:Int):Value:=.agg #[.int .i64 k,.string t,.int .i64 a]
theorem xU (w:World) (e:TypeId) (s:ByteArray):Ext w (Lib.bytesWorld w e s):=
 ⟨by simp [Lib.bytesWorld,World.freeze];rfl,by simp [Lib.bytesWorld,World.freeze],by simp [Lib.bytesWorld,World.freeze];rfl,by rw [Lib.bytesWorld_size];omega,fun k hk _=>Lib.bytesWorld_at_old _ _ _ _ hk⟩
theorem Jr (s:ByteArray) (hs:s.size≤100000) (hd:mQ s.data.toList=true) (hn:s.data.toList≠[]) (hl:decFrom 0 s.data.toList<9223372036854775808) (w:World) :
  Calls Tryz.prog 223 #[.string s,.int .i64 10,.int .i64 64] w fun e w'=>e=.returned (.tuple #[.int .i64 (decFrom 0 s.data.toList),.nilIface])∧Ext w w':=by
 have h:=qM _ hd hn;rw [if_pos hl] at h;refine(Tryz.strconv_ParseInt_10_at64_ok s (by omega) _ h w).mono ?_
 rintro e w' ⟨rfl,rfl|⟨t,rfl⟩⟩
 ·exact⟨rfl,aB.refl _ _⟩
 ·exact⟨rfl,xU _ _ _⟩
theorem Bj (s:ByteArray) (hs:s.size≤100000) (hd:mQ s.data.toList=true) (hn:s.data.toList≠[]) (hl:¬ decFrom 0 s.data.toList<9223372036854775808) (w:World) (hv:ErrVar w) :
  Calls Tryz.prog 223 #[.string s,.int .i64 10,.int .i64 64] w fun e w'=>∃ v T p,e=.returned (.tuple #[.int .i64 v,.iface T p])∧Ext w w':=by
 have h:=qM _ hd hn;rw [if_neg hl] at h;obtain⟨tp,p,hv⟩:=hv;refine(Tryz.strconv_ParseInt_10_at64_range_var s (by omega) h tp p w hv).mono ?_
 rintro e w' ⟨N,rfl,_,_,hB⟩;exact⟨_,_,_,rfl,Below.nH hB⟩
set_option maxRecDepth 100000 in
set_option maxHeartbeats 1000000 in
theorem Bl (s:ByteArray) (w:World) (hs:s.size≤100000) (hf:mQ s.data.toList=false) :
  Calls Tryz.prog 170 #[.string s] w fun e w'=>e=.returned (.tuple #[uu 0 ⟨#[]⟩ 0,.int .i64 2])∧Ext w w':=by
 obtain⟨r,hr⟩:∃ r,Lib.trimS s.data.toList [48,49,50,51,52,53,54,55,56,57]=r:=⟨_,rfl⟩
 have hne:r≠[]:=by
  rw [←hr];intro h;rw [(lW _).1 h] at hf;cases hf
 have c1:=fun w=>Tryz.strings_Trim_digits s w (by omega)
 rw [hr] at c1;have C1:=Z_ c1;have hb1:r.isEmpty=false:=by cases r<;>simp_all
 clear c1 hr hf hne;go_enter Tryz.func170,Tryz.ntmps170
 go_wp2_with (go_at_call 225;refine(C1.out _).mono ?_;rintro e w' ⟨rfl,hB⟩;have hE:=((aB.refl (fun _=>False) w).alloc _).ext (Below.nH hB);have hK:=(aH.made _ _ _).ext (Below.nH hB);have hKc:=hK.cell;have hKf:=hK.frozen)
 exact bodyPost_ret (dm rfl _ _ rfl (((hK.set 0 _).set 1 _).set 2 _) Tryz.underlying195 rfl (by kernel_rfl)) rfl ⟨rfl,((hE.bI (Nat.le_refl _) _).bI (Nat.le_refl _) _).bI (Nat.le_refl _) _⟩
set_option maxRecDepth 100000 in
set_option maxHeartbeats 1000000 in
theorem xj (s:ByteArray) (w:World) (hs:s.size≤100000) (hf:mQ s.data.toList=true) (h1:1<s.size) (h0:s.data.toList.head? = some 48) :
  Calls Tryz.prog 170 #[.string s] w fun e w'=>e=.returned (.tuple #[uu 0 ⟨#[]⟩ 0,.int .i64 2])∧Ext w w':=by
 have c1:=fun w=>Tryz.strings_Trim_digits s w (by omega)
 rw [(lW _).2 hf] at c1;have C1:=Z_ c1
 have hz:((s[0].toNat:Int) == 48)=true:=by
  have:s.data.toList[0]? = some 48:=by rw [←List.head?_eq_getElem?];exact h0
  rw [List.getElem?_eq_getElem (by simpa using (show 0<s.data.size from by have e:s.data.size=s.size:=rfl;omega))] at this;have e:s[0]=48:=Option.some.inj this;rw [e];rfl
 clear c1 hf h0;go_enter Tryz.func170,Tryz.ntmps170
 go_wp2_with (go_at_call 225;refine(C1.out _).mono ?_;rintro e w' ⟨rfl,hB⟩;have hE:=((aB.refl (fun _=>False) w).alloc _).ext (Below.nH hB);have hK:=(aH.made _ _ _).ext (Below.nH hB);have hKc:=hK.cell;have hKf:=hK.frozen)
 exact bodyPost_ret (dm rfl _ _ rfl (((hK.set 0 _).set 1 _).set 2 _) Tryz.underlying195 rfl (by kernel_rfl)) rfl ⟨rfl,((hE.bI (Nat.le_refl _) _).bI (Nat.le_refl _) _).bI (Nat.le_refl _) _⟩
set_option maxRecDepth 100000 in
set_option maxHeartbeats 1000000 in
theorem zx (s:ByteArray) (w:World) (hs:s.size≤100000) (hf:mQ s.data.toList=true) (hn:s.data.toList≠[]) (hz:∀ _:1<s.size,((s[0]!.toNat:Int) == 48)=false) (hl:¬ decFrom 0 s.data.toList<9223372036854775808) (hv:ErrVar w) :
  Calls Tryz.prog 170 #[.string s] w fun e w'=>e=.returned (.tuple #[uu 0 ⟨#[]⟩ 0,.int .i64 6])∧Ext w w':=by
 have c1:=fun w=>Tryz.strings_Trim_digits s w (by omega)
 rw [(lW _).2 hf] at c1;have C1:=Z_ c1;have C2:=Z_ (Bj s hs hf hn hl);clear c1 hf hn hl;by_cases h1:1<s.size
 ·have hz:=hz h1
  rw [getElem!_pos s 0 (by omega)] at hz;go_enter Tryz.func170,Tryz.ntmps170
  go_wp2_with (first|(go_at_call 225;refine(C1.out _).mono ?_;rintro e w' ⟨rfl,hB⟩;have hE:=((aB.refl (fun _=>False) w).alloc _).ext (Below.nH hB);have hK:=(aH.made _ _ _).ext (Below.nH hB))|(go_at_call 223;refine(C2.out _ (hv.ext hE)).mono ?_;rintro e w2 ⟨v,T,p,rfl,hE2⟩;have hK2:=hK.ext hE2;have hKc:=hK2.cell;have hKf:=hK2.frozen))
  exact bodyPost_ret (dm rfl _ _ rfl (((hK2.set 0 _).set 1 _).set 2 _) Tryz.underlying195 rfl (by kernel_rfl)) rfl ⟨rfl,(((hE.ext hE2).bI (Nat.le_refl _) _).bI (Nat.le_refl _) _).bI (Nat.le_refl _) _⟩
 ·clear hz
  go_enter Tryz.func170,Tryz.ntmps170
  go_wp2_with (first|(go_at_call 225;refine(C1.out _).mono ?_;rintro e w' ⟨rfl,hB⟩;have hE:=((aB.refl (fun _=>False) w).alloc _).ext (Below.nH hB);have hK:=(aH.made _ _ _).ext (Below.nH hB))|(go_at_call 223;refine(C2.out _ (hv.ext hE)).mono ?_;rintro e w2 ⟨v,T,p,rfl,hE2⟩;have hK2:=hK.ext hE2;have hKc:=hK2.cell;have hKf:=hK2.frozen))
  exact bodyPost_ret (dm rfl _ _ rfl (((hK2.set 0 _).set 1 _).set 2 _) Tryz.underlying195 rfl (by kernel_rfl)) rfl ⟨rfl,(((hE.ext hE2).bI (Nat.le_refl _) _).bI (Nat.le_refl _) _).bI (Nat.le_refl _) _⟩
set_option maxRecDepth 100000 in
set_option maxHeartbeats 1000000 in
theorem Bo (s:ByteArray) (w:World) (hs:s.size≤100000) (hf:mQ s.data.toList=true) (hn:s.data.toList≠[]) (hz:∀ _:1<s.size,((s[0]!.toNat:Int) == 48)=false) (hl:decFrom 0 s.data.toList<9223372036854775808) :
  Calls Tryz.prog 170 #[.string s] w fun e w'=>e=.returned (.tuple #[uu 2 s 0,.int .i64 0])∧Ext w w':=by
 have c1:=fun w=>Tryz.strings_Trim_digits s w (by omega)
 rw [(lW _).2 hf] at c1;have C1:=Z_ c1;have C2:=Z_ (Jr s hs hf hn hl);clear c1 hf hn hl;by_cases h1:1<s.size
 ·have hz:=hz h1
  rw [getElem!_pos s 0 (by omega)] at hz;go_enter Tryz.func170,Tryz.ntmps170
  go_wp2_with (first|(go_at_call 225;refine(C1.out _).mono ?_;rintro e w' ⟨rfl,hB⟩;have hE:=((aB.refl (fun _=>False) w).alloc _).ext (Below.nH hB);have hK:=(aH.made _ _ _).ext (Below.nH hB))|(go_at_call 223;refine(C2.out _).mono ?_;rintro e w2 ⟨rfl,hE2⟩;have hK2:=hK.ext hE2;have hKc:=hK2.cell;have hKf:=hK2.frozen))
  exact bodyPost_ret (dm rfl _ _ rfl (((hK2.set 0 _).set 1 _).set 2 _) Tryz.underlying195 rfl (by kernel_rfl)) rfl ⟨rfl,(((hE.ext hE2).bI (Nat.le_refl _) _).bI (Nat.le_refl _) _).bI (Nat.le_refl _) _⟩
 ·clear hz
  go_enter Tryz.func170,Tryz.ntmps170
  go_wp2_with (first|(go_at_call 225;refine(C1.out _).mono ?_;rintro e w' ⟨rfl,hB⟩;have hE:=((aB.refl (fun _=>False) w).alloc _).ext (Below.nH hB);have hK:=(aH.made _ _ _).ext (Below.nH hB))|(go_at_call 223;refine(C2.out _).mono ?_;rintro e w2 ⟨rfl,hE2⟩;have hK2:=hK.ext hE2;have hKc:=hK2.cell;have hKf:=hK2.frozen))
  exact bodyPost_ret (dm rfl _ _ rfl (((hK2.set 0 _).set 1 _).set 2 _) Tryz.underlying195 rfl (by kernel_rfl)) rfl ⟨rfl,(((hE.ext hE2).bI (Nat.le_refl _) _).bI (Nat.le_refl _) _).bI (Nat.le_refl _) _⟩
theorem lD (s:ByteArray) (w:World) (hs:s.size≤100000) (h0:0<s.size) (hv:ErrVar w) :
  Calls Tryz.prog 170 #[.string s] w fun e w'=>e=.returned (.tuple #[if gB s.data.toList=0 then uu 2 s 0 else uu 0 ⟨#[]⟩ 0,.int .i64 (gB s.data.toList)])∧Ext w w':=by
 have hsz:s.data.toList.length=s.size:=by rw [Array.length_toList];rfl
 have hn:s.data.toList≠[]:=by intro h;rw [h] at hsz;simp at hsz;omega
 have hh:s.data.toList.head? = some s[0]:=by
  rw [List.head?_eq_getElem?,List.getElem?_eq_getElem (by omega)];rfl
 cases hd:mQ s.data.toList
 ·have e:gB s.data.toList=2:=by rw [gB,if_pos hd]
  rw [e];exact Bl s w hs hd
 ·by_cases hz:1<s.size∧s.data.toList.head? = some 48
  ·have e:gB s.data.toList=2:=by rw [gB,if_neg (by simp [hd]),if_pos ⟨by omega,hz.2⟩]
   rw [e];exact xj s w hs hd hz.1 hz.2
  ·have hz':∀ _:1<s.size,((s[0]!.toNat:Int) == 48)=false:=by
    intro h1;rw [getElem!_pos s 0 (by omega),beq_eq_false_iff_ne];intro e;exact hz ⟨h1,by rw [hh,(vT s[0] 48).1 e]⟩
   by_cases hl:decFrom 0 s.data.toList<9223372036854775808
   ·have e:gB s.data.toList=0:=by rw [gB,if_neg (by simp [hd]),if_neg (by rw [hsz];exact hz),if_neg (by omega)]
    rw [e];exact Bo s w hs hd hn hz' hl
   ·have e:gB s.data.toList=6:=by rw [gB,if_neg (by simp [hd]),if_neg (by rw [hsz];exact hz),if_pos (by omega)]
    rw [e];exact zx s w hs hd hn hz' hl hv
end lex
end Go.Proofs.YtpcihajmcejliacGreatDoor
namespace Go.Proofs.YtpcihajmcejliacGreatDoor
open Go.RowKit
def tj:List UInt8:=[123,125,40,41,91,93,59,44,46,61,60,43,45,42,47,37,38,124,33]
def nO (l:List UInt8):Nat:=if Lib.hasPrefix l [61,61]=true then 2 else match l with|[]=>0|c::_=>if tj.contains c then 1 else 0
def tokF (l:List UInt8):Int×Nat×Int:=
 match l with
 | []=>(0,0,2)
 | c::_=>
  if iO c.toNat then (1,runN dS l,if 16<runN dS l then 1 else 0)
  else if iK c.toNat then (2,runN dS l,gB (l.take (runN dS l)))
  else (3,nO l,if nO l=0 then 2 else 0)
namespace lex
theorem iY (s:ByteArray) (k n:Nat):(s.extract k (k+n)).data.toList=(s.data.toList.drop k).take n:=by
 simp [ByteArray.data_extract]
theorem Bv (s:ByteArray) (k:Nat):(s.extract k s.size).data.toList=s.data.toList.drop k:=by
 have e:s.data.size=s.size:=rfl;simp only [ByteArray.data_extract,Array.toList_extract,List.extract_eq_take_drop];rw [List.take_of_length_le (by simp)]
def rL (p:Nat) (s:ByteArray) (k:Nat) (c f:Int) (w:World) (T:Int×Nat×Int) (e:Ending) (w':World):Prop:=
 e=.returned (.tuple #[if T.2.2=0 then uu T.1 (s.extract k (k+T.2.1)) 0 else uu 0 ⟨#[]⟩ 0,.int .i64 T.2.2])∧∃ k':Nat,(T.2.2=0→k'=k+T.2.1)∧k'≤s.size∧mX w' p s k' c f∧aB (fun i=>i=p) w w'
theorem Dv {w:World} {p b:Nat} {s:ByteArray} {k:Nat} {c f:Int} (h:mX w p s k c f) (hp:p≠b) (x y z:Value):mX (((w.setCell ⟨b,0,none⟩ x).setCell ⟨b,1,none⟩ y).setCell ⟨b,2,none⟩ z) p s k c f:=
 ((h.setOther hp _).setOther hp _).setOther hp _
theorem Dw {S:Nat→Prop} {a w:World} {b:Nat} (h:aB S a w) (hb:a.heap.size≤b) (x y z:Value):aB S a (((w.setCell ⟨b,0,none⟩ x).setCell ⟨b,1,none⟩ y).setCell ⟨b,2,none⟩ z):=
 ((h.bI hb _).bI hb _).bI hb _
set_option maxRecDepth 100000 in
set_option maxHeartbeats 1000000 in
theorem Bz (p:Nat) (s:ByteArray) (k:Nat) (c f:Int) (w:World) (h:mX w p s k c f) (hk:k<s.size) (hs:s.size≤100000) (hl:iO s[k].toNat=true) :
  Calls Tryz.prog 93 #[.pointer (some ⟨p,0,none⟩)] w (rL p s k c f w (tokF (s.data.toList.drop k))):=by
 generalize hT:tokF (s.data.toList.drop k)=T;rw [drop_cons s k hk] at hT;simp only [tokF,hl,if_true] at hT;rw [←drop_cons s k hk] at hT;have hp:=h.lt;have hpn:p≠w.heap.size:=by omega
 have c0:=h.cell 0;have c1:=h.cell 1;have f1:=h.frozen 1;simp only [List.getElem?_toArray,List.getElem?_cons_zero,List.getElem?_cons_succ] at c0 c1;have cc:=oh (s[k].toNat:Int);rw [hl] at cc;have CC:=Z_ cc;have hroom:=pX dS s k (by omega);obtain⟨n,hn⟩:∃ n,runN dS (s.data.toList.drop k)=n:=⟨_,rfl⟩;have C2:=Z_ (fun w' h'=>A8 p s k c f w' h' (by omega) hs);rw [hn] at hT hroom C2;clear cc hl hn;by_cases h16:16<n
 ·rw [if_pos h16] at hT
  have HT:=Z_ hT;clear hT;go_enter Tryz.func93,Tryz.ntmps93
  go_wp2_with fail
  go_quiet (fail)
  go_wp2_with (first|(go_at_call 167;refine(CC.out _).mono ?_;rintro e w' ⟨rfl,rfl⟩)|(go_at_call 164;refine(C2.out _ ((h.alloc _).drewN _)).mono ?_;rintro e w' ⟨rfl,hS,hC⟩;have hK:=((aH.made w _ _).drewN _).aO hC (fun e=>hpn e.symm);have hKc:=hK.cell;have hKf:=hK.frozen))
  refine bodyPost_ret (dm rfl _ _ rfl (((hK.set 0 _).set 1 _).set 2 _) Tryz.underlying195 rfl (by kernel_rfl)) rfl ?_
  rw [←HT.out];exact⟨rfl,k+n,fun _=>rfl,hroom,Dv hS hpn _ _ _,Dw ((((aB.refl _ w).alloc _).drewN _).then hC) (Nat.le_refl _) _ _ _⟩
 ·rw [if_neg h16] at hT
  have HT:=Z_ hT;clear hT;go_enter Tryz.func93,Tryz.ntmps93
  go_wp2_with fail
  go_quiet (fail)
  go_wp2_with (first|(go_at_call 167;refine(CC.out _).mono ?_;rintro e w' ⟨rfl,rfl⟩)|(go_at_call 164;refine(C2.out _ ((h.alloc _).drewN _)).mono ?_;rintro e w' ⟨rfl,hS,hC⟩;have hK:=((aH.made w _ _).drewN _).aO hC (fun e=>hpn e.symm);have hKc:=hK.cell;have hKf:=hK.frozen))
  refine bodyPost_ret (dm rfl _ _ rfl (((hK.set 0 _).set 1 _).set 2 _) Tryz.underlying195 rfl (by kernel_rfl)) rfl ?_
  rw [←HT.out];exact⟨rfl,k+n,fun _=>rfl,hroom,Dv hS hpn _ _ _,Dw ((((aB.refl _ w).alloc _).drewN _).then hC) (Nat.le_refl _) _ _ _⟩
set_option maxRecDepth 100000 in
set_option maxHeartbeats 1000000 in
theorem Dx (p:Nat) (s:ByteArray) (k:Nat) (c f:Int) (w:World) (h:mX w p s k c f) (hk:k<s.size) (hs:s.size≤100000) (hl:iO s[k].toNat=false) (hd:iK s[k].toNat=true) (hv:ErrVar w) (hvp:p≠6) :
  Calls Tryz.prog 93 #[.pointer (some ⟨p,0,none⟩)] w (rL p s k c f w (tokF (s.data.toList.drop k))):=by
 generalize hT:tokF (s.data.toList.drop k)=T;rw [drop_cons s k hk] at hT;simp only [tokF,hl,hd,Bool.false_eq_true,if_false,if_true] at hT;rw [←drop_cons s k hk] at hT;have hp:=h.lt;have hpn:p≠w.heap.size:=by omega
 have c0:=h.cell 0;have c1:=h.cell 1;have f1:=h.frozen 1;simp only [List.getElem?_toArray,List.getElem?_cons_zero,List.getElem?_cons_succ] at c0 c1;have cc:=oh (s[k].toNat:Int);rw [hl] at cc;have CC:=Z_ cc;have cd:=sU (s[k].toNat:Int);rw [hd] at cd;have CD:=Z_ cd;have hroom:=pX dS s k (by omega)
 have hpos:0<runN dS (s.data.toList.drop k):=by
  rw [nJ dS s k hk (by unfold dS;rw [hd];simp)];omega
 obtain⟨n,hn⟩:∃ n,runN dS (s.data.toList.drop k)=n:=⟨_,rfl⟩;have C2:=Z_ (fun w' h'=>A8 p s k c f w' h' (by omega) hs);rw [hn] at hT hroom C2 hpos;have c3:=fun w' hv'=>lD (s.extract k (k+n)) w' (by simp;omega) (by simp;omega) hv'
 rw [iY] at c3;clear cc cd hl hd hn;by_cases h0:gB ((s.data.toList.drop k).take n)=0
 ·rw [if_pos h0,h0] at c3
  rw [h0] at hT;have C3:=Z_ c3;have HT:=Z_ hT;clear hT c3 h0;go_enter Tryz.func93,Tryz.ntmps93
  go_wp2_with fail
  go_quiet (fail)
  go_wp2_with (first|(go_at_call 167;refine(CC.out _).mono ?_;rintro e w' ⟨rfl,rfl⟩)|(go_at_call 169;refine(CD.out _).mono ?_;rintro e w' ⟨rfl,rfl⟩)|(go_at_call 164;refine(C2.out _ ((h.alloc _).drewN _)).mono ?_;rintro e w' ⟨rfl,hS,hC⟩;have hK:=((aH.made w _ _).drewN _).aO hC (fun e=>hpn e.symm))|(go_at_call 170;refine(C3.out _ ((((hv.ext ((aB.refl _ w).alloc _)).ext ((aB.refl _ _).drewN _)).aO hC (fun e=>hvp e.symm)))).mono ?_;rintro e w3 ⟨rfl,hE⟩;have hK2:=hK.ext hE;have Og:=hS.ext hE;have hKc:=hK2.cell;have hKf:=hK2.frozen;unfold uu))
  refine bodyPost_ret (dm rfl _ _ rfl (((hK2.set 0 _).set 1 _).set 2 _) Tryz.underlying195 rfl (by kernel_rfl)) rfl ?_
  rw [←HT.out];exact⟨rfl,k+n,fun _=>rfl,hroom,Dv Og hpn _ _ _,Dw (((((aB.refl _ w).alloc _).drewN _).then hC).ext hE) (Nat.le_refl _) _ _ _⟩
 ·obtain⟨q,hq⟩:∃ q,gB ((s.data.toList.drop k).take n)=q:=⟨_,rfl⟩
  rw [if_neg h0] at c3;rw [hq] at hT c3 h0;have C3:=Z_ c3;have HT:=Z_ hT;have H0:=Z_ h0;clear hT c3 h0 hq;go_enter Tryz.func93,Tryz.ntmps93
  go_wp2_with fail
  go_quiet (fail)
  go_wp2_with (first|(go_at_call 167;refine(CC.out _).mono ?_;rintro e w' ⟨rfl,rfl⟩)|(go_at_call 169;refine(CD.out _).mono ?_;rintro e w' ⟨rfl,rfl⟩)|(go_at_call 164;refine(C2.out _ ((h.alloc _).drewN _)).mono ?_;rintro e w' ⟨rfl,hS,hC⟩;have hK:=((aH.made w _ _).drewN _).aO hC (fun e=>hpn e.symm))|(go_at_call 170;refine(C3.out _ ((((hv.ext ((aB.refl _ w).alloc _)).ext ((aB.refl _ _).drewN _)).aO hC (fun e=>hvp e.symm)))).mono ?_;rintro e w3 ⟨rfl,hE⟩;have hK2:=hK.ext hE;have Og:=hS.ext hE;have hKc:=hK2.cell;have hKf:=hK2.frozen;unfold uu))
  refine bodyPost_ret (dm rfl _ _ rfl (((hK2.set 0 _).set 1 _).set 2 _) Tryz.underlying195 rfl (by kernel_rfl)) rfl ?_
  rw [←HT.out];refine⟨?_,k+n,fun _=>rfl,hroom,Dv Og hpn _ _ _,Dw (((((aB.refl _ w).alloc _).drewN _).then hC).ext hE) (Nat.le_refl _) _ _ _⟩
  rw [if_neg H0.out];rfl
theorem wB (c:UInt8) (l:List UInt8):0≤Lib.indexByte l c↔l.contains c=true:=by
 have key:∀ l:List UInt8,-1≤Lib.indexByte l c∧(0≤Lib.indexByte l c↔l.contains c=true):=by
  intro l;induction l with
  | nil=>simp [Lib.indexByte]
  | cons b r ih=>
   obtain⟨h1,h2⟩:=ih;simp only [Lib.indexByte,List.contains_cons,Bool.or_eq_true,beq_iff_eq];by_cases hb:b=c
   ·subst hb;simp
   ·simp only [hb,Ne.symm hb,if_false,false_or,←h2]
    by_cases hm:Lib.indexByte r c=-1
    ·simp [hm]
    ·simp only [hm,if_false];omega
 exact(key l).2
theorem zy (c:UInt8) (h:c.toNat<128):Utf8.encode (c.toNat:Int)=⟨#[c]⟩:=by
 have hv:Utf8.valid (c.toNat:Int)=true:=by simp [Utf8.valid];omega
 simp only [Utf8.encode,hv,if_true,Int.toNat_natCast];rw [if_pos h];simp
theorem BA (c:UInt8):wrap32 (c.toNat:Int)=c.toNat:=by
 have:=c.toNat_lt;unfold wrap32;omega
theorem one_byte (s:ByteArray) (k:Nat) (hk:k<s.size):(⟨#[s[k]]⟩:ByteArray)=s.extract k (k+1):=by
 apply ByteArray.ext
 apply Array.ext'
 rw [iY,drop_cons s k hk];rfl
theorem two_bytes (s:ByteArray) (k:Nat) (h:Lib.hasPrefix (s.data.toList.drop k) [61,61]=true):(⟨#[61,61]⟩:ByteArray)=s.extract k (k+2)∧k+2≤s.size:=by
 have h':[61,61] <+: s.data.toList.drop k:=List.isPrefixOf_iff_prefix.1 h;obtain⟨r,hr⟩:=h';have hl:(s.data.toList.drop k).length=2+r.length:=by rw [←hr];simp;omega
 have e:s.data.size=s.size:=rfl;simp only [List.length_drop,Array.length_toList] at hl;refine⟨?_,by omega⟩
 apply ByteArray.ext
 apply Array.ext'
 rw [iY,←hr];rfl
theorem two_first (l:List UInt8) (h:Lib.hasPrefix l [61,61]=true):∃ r,l=61::r:=by
 obtain⟨r,hr⟩:=List.isPrefixOf_iff_prefix.1 h;exact⟨_,hr.symm⟩
theorem Dy (c:UInt8) (h:tj.contains c=true):c.toNat<128:=by
 have key:∀ c∈tj,c.toNat<128:=by decide
 exact key c (by simpa using h)
set_option maxRecDepth 100000 in
set_option maxHeartbeats 1000000 in
theorem Gj (p:Nat) (s:ByteArray) (k:Nat) (c f:Int) (w:World) (h:mX w p s k c f) (hk:k<s.size) (hs:s.size≤100000) (hl:iO s[k].toNat=false) (hd:iK s[k].toNat=false) :
  Calls Tryz.prog 93 #[.pointer (some ⟨p,0,none⟩)] w (rL p s k c f w (tokF (s.data.toList.drop k))):=by
 generalize hT:tokF (s.data.toList.drop k)=T;rw [drop_cons s k hk] at hT;simp only [tokF,hl,hd,Bool.false_eq_true,if_false] at hT;rw [←drop_cons s k hk] at hT;have hp:=h.lt;have hpn:p≠w.heap.size:=by omega
 have c0:=h.cell 0;have c1:=h.cell 1;have f1:=h.frozen 1;simp only [List.getElem?_toArray,List.getElem?_cons_zero,List.getElem?_cons_succ] at c0 c1;have cc:=oh (s[k].toNat:Int);rw [hl] at cc;have CC:=Z_ cc;have cd:=sU (s[k].toNat:Int);rw [hd] at cd;have CD:=Z_ cd;have ci:=fun w=>(Tryz.strings_IndexByte ⟨#[123,125,40,41,91,93,59,44,46,61,60,43,45,42,47,37,38,124,33]⟩ (s[k].toNat:Int) w)
 have cx:(s[k].toNat:Int).toNat.toUInt8=s[k]:=by simp
 rw [cx] at ci;have hcon:=wB s[k] tj;obtain⟨I,hI⟩:∃ I,Lib.indexByte tj s[k]=I:=⟨_,rfl⟩;have ci:∀ w,Calls Tryz.prog 171 #[.string ⟨#[123,125,40,41,91,93,59,44,46,61,60,43,45,42,47,37,38,124,33]⟩,.int .u8 s[k].toNat] w fun e w'=>e=.returned (.int .i64 I)∧w'=w:=by rw [←hI];exact ci
 have CI:=Z_ ci;rw [hI] at hcon;clear cc cd hl hd ci cx hI;have cp:=fun w=>Tryz.strings_HasPrefix (s.extract k s.size) ⟨#[61,61]⟩ w
 rw [Bv] at cp;obtain⟨B,hB⟩:∃ B,Lib.hasPrefix (s.data.toList.drop k) [61,61]=B:=⟨_,rfl⟩;have cp:∀ w,Calls Tryz.prog 172 #[.string (s.extract k s.size),.string ⟨#[61,61]⟩] w fun e w'=>e=.returned (.bool B)∧w'=w:=by rw [←hB];exact cp
 have CP:=Z_ cp;clear cp;cases hcn:tj.contains s[k]
 ·rw [hcn] at hcon
  have hI0:I<0:=by
   rcases Int.lt_or_le I 0 with h|h
   ·exact h
   ·exact absurd (hcon.1 h) (by simp)
  have hB':B=false:=by
   cases B
   ·rfl
   ·obtain⟨r,hr⟩:=two_first _ hB
    rw [drop_cons s k hk] at hr;injection hr with e1 _
    rw [e1] at hcn;exact absurd hcn (by decide)
  have hsn:nO (s.data.toList.drop k)=0:=by
   unfold nO;rw [hB,hB',drop_cons s k hk];simp only [Bool.false_eq_true,if_false,hcn]
  rw [hsn] at hT;have HT:=Z_ hT;clear hT hsn hB' hB hcn hcon CP;go_enter Tryz.func93,Tryz.ntmps93
  go_wp2_with fail
  go_quiet (fail)
  go_wp2_with (first|(go_at_call 167;refine(CC.out _).mono ?_;rintro e w' ⟨rfl,rfl⟩)|(go_at_call 169;refine(CD.out _).mono ?_;rintro e w' ⟨rfl,rfl⟩)|(go_at_call 171;refine(CI.out _).mono ?_;rintro e w' ⟨rfl,rfl⟩))
  refine bodyPost_ret (dm rfl _ _ rfl (((((aH.made w _ _).drewN _).set 0 _).set 1 _).set 2 _) Tryz.underlying195 rfl (by kernel_rfl)) rfl ?_
  rw [←HT.out];exact⟨rfl,k,fun h=>by simp at h,by omega,Dv ((h.alloc _).drewN _) hpn _ _ _,Dw (((aB.refl _ w).alloc _).drewN _) (Nat.le_refl _) _ _ _⟩
 ·rw [hcn] at hcon
  have hkI:(k:Int)≤(s.size:Int):=by omega
  have hI0:0≤I:=hcon.2 rfl;have Qm:=Dy _ hcn;cases B
  ·have hsn:nO (s.data.toList.drop k)=1:=by
    unfold nO;rw [hB,drop_cons s k hk];simp only [Bool.false_eq_true,if_false,hcn,if_true]
   rw [hsn] at hT;have HT:=Z_ hT;have HE:=Z_ (zy _ Qm);have H1:=Z_ (one_byte s k hk);clear hT hsn hB hcn hcon Qm;go_enter Tryz.func93,Tryz.ntmps93
   go_wp2_with fail
   go_quiet (fail)
   generalize s[k]=cb at *;have he:=HE.out;go_wp2_with (first|(go_at_call 167;refine(CC.out _).mono ?_;rintro e w' ⟨rfl,rfl⟩)|(go_at_call 169;refine(CD.out _).mono ?_;rintro e w' ⟨rfl,rfl⟩)|(go_at_call 171;refine(CI.out _).mono ?_;rintro e w' ⟨rfl,rfl⟩))
   go_quiet ((go_at_call 172;exact oI CP.out _ _ _))
   go_wp2_with fail
   rw [BA,HE.out,H1.out];refine bodyPost_ret (dm rfl _ _ rfl ((((((aH.made w _ _).drewN _).setOther (fun e=>hpn e.symm) _).set 0 _).set 1 _).set 2 _) Tryz.underlying195 rfl (by kernel_rfl)) rfl ?_
   rw [←HT.out];exact⟨rfl,k+1,fun _=>rfl,by omega,Dv (aH.set ((h.alloc _).drewN _) 1 _) hpn _ _ _,Dw ((((aB.refl (fun i=>i=p) w).alloc _).drewN _).setCell (fun _=>rfl) _) (Nat.le_refl _) _ _ _⟩
  ·have hsn:nO (s.data.toList.drop k)=2:=by
    unfold nO;rw [hB,if_pos rfl]
   obtain⟨h2,hk2⟩:=two_bytes s k hB;have H2:=Z_ h2;rw [hsn] at hT;have HT:=Z_ hT;clear hT hsn hB hcn hcon Qm h2;go_enter Tryz.func93,Tryz.ntmps93
   go_wp2_with fail
   go_quiet (fail)
   generalize s[k]=cb at *;go_wp2_with (first|(go_at_call 167;refine(CC.out _).mono ?_;rintro e w' ⟨rfl,rfl⟩)|(go_at_call 169;refine(CD.out _).mono ?_;rintro e w' ⟨rfl,rfl⟩)|(go_at_call 171;refine(CI.out _).mono ?_;rintro e w' ⟨rfl,rfl⟩))
   go_quiet ((go_at_call 172;exact oI CP.out _ _ _))
   go_wp2_with fail
   rw [H2.out];refine bodyPost_ret (dm rfl _ _ rfl ((((((aH.made w _ _).drewN _).setOther (fun e=>hpn e.symm) _).set 0 _).set 1 _).set 2 _) Tryz.underlying195 rfl (by kernel_rfl)) rfl ?_
   rw [←HT.out];exact⟨rfl,k+2,fun _=>rfl,hk2,Dv (aH.set ((h.alloc _).drewN _) 1 _) hpn _ _ _,Dw ((((aB.refl (fun i=>i=p) w).alloc _).drewN _).setCell (fun _=>rfl) _) (Nat.le_refl _) _ _ _⟩
theorem next_any (p:Nat) (s:ByteArray) (k:Nat) (c f:Int) (w:World) (h:mX w p s k c f) (hk:k<s.size) (hs:s.size≤100000) (hv:ErrVar w) (hvp:p≠6) :
  Calls Tryz.prog 93 #[.pointer (some ⟨p,0,none⟩)] w (rL p s k c f w (tokF (s.data.toList.drop k))):=by
 cases hl:iO s[k].toNat
 ·cases hd:iK s[k].toNat
  ·exact Gj p s k c f w h hk hs hl hd
  ·exact Dx p s k c f w h hk hs hl hd hv hvp
 ·exact Bz p s k c f w h hk hs hl
end lex
end Go.Proofs.YtpcihajmcejliacGreatDoor
namespace Go.Proofs.YtpcihajmcejliacGreatDoor
open Go.RowKit
abbrev Tok:=Int×Nat×Nat
def Tok.cells (s:ByteArray) (t:Tok):List Value:=[.int .i64 t.1,.string (s.extract t.2.1 (t.2.1+t.2.2)),.int .i64 t.2.1]
def iH (s:ByteArray) (l:List Tok):List Value:=l.flatMap (Tok.cells s)
def fQ:Nat→List UInt8→Nat→List Tok→List Tok×Int×Nat
 | 0,_,_,_=>([],0,0)
 | f+1,l,p,acc=>
  if p<l.length then
   let T:=tokF (l.drop p)
   if T.2.2=0 then fQ f l (p+T.2.1+fC false (l.drop (p+T.2.1))) (acc ++ [(T.1,p,T.2.1)]) else ([],T.2.2,p)
  else (acc,0,0)
def iP (l:List UInt8):List Tok×Int×Nat:=if 3000<l.length then ([],1,0) else fQ (l.length+1) l (fC false l) []
theorem xk (s:ByteArray) (l:List Tok) (t:Tok):iH s (l ++ [t])=iH s l++Tok.cells s t:=by simp [iH]
theorem Mc (l:List UInt8) (h:(tokF l).2.2=0):1≤(tokF l).2.1:=by
 cases l with
 | nil=>simp [tokF] at h
 | cons c r=>
  simp only [tokF] at h ⊢
  have hr:dS c.toNat=true→1≤runN dS (c::r):=by
   intro hb;simp [runN,hb]
  split
  ·rename_i hl;exact hr (by simp [dS,hl])
  ·rename_i hl
   rw [if_neg hl] at h;split
   ·rename_i hd;exact hr (by simp [dS,hd])
   ·rename_i hd
    rw [if_neg hd] at h;by_cases hz:nO (c::r)=0
    ·simp [hz] at h
    ·simp only;omega
namespace lex
set_option maxRecDepth 100000 in
set_option maxHeartbeats 1000000 in
theorem Gl (s:ByteArray) (w:World) (h:3000<s.size) (hs:s.size≤9223372036854775807) :
  Calls Tryz.prog 46 #[.string s] w fun e w'=>e=.returned (.tuple #[.slice none 0 0,.agg #[.int .i64 1,.int .i64 0]])∧Ext w w':=by
 go_enter Tryz.func46,Tryz.ntmps46
 go_wp2_with fail
 exact bodyPost_ret (mO rfl _ _ rfl (aH.made w _ _) Tryz.underlying27 rfl (by kernel_rfl)) rfl ⟨rfl,(aB.refl _ w).alloc _⟩
set_option maxRecDepth 100000 in
set_option maxHeartbeats 2000000 in
theorem Js (s:ByteArray) (w:World) (h:s.size≤3000) (hv:ErrVar w) (T:List Tok×Int×Nat) (hT:Hid (iP s.data.toList=T)) :
  Calls Tryz.prog 46 #[.string s] w fun e w'=>∃ v,e=.returned (.tuple #[v,.agg #[.int .i64 T.2.1,.int .i64 T.2.2]])∧w'.ownsRow (w.heap.size+2) 195 3 v T.1.length (iH s T.1)∧Ext w w':=by
 have hlen:s.data.toList.length=s.size:=by rw [Array.length_toList];rfl
 go_enter Tryz.func46,Tryz.ntmps46
 go_wp2_with fail
 refine(vX (w.heap.size+1) s 0 0 0 _ (aH.made2 w _ _ _) (by omega) (by omega)).mono ?_
 rintro e w1 ⟨rfl,hS,hC⟩;have hR:aH w1 w.heap.size #[.int .i64 0,.int .i64 0] 27:=((aH.made w _ _).alloc _).aO hC (by omega);have hE:Ext w w1:=(((aB.refl _ w).alloc _).alloc _).trans hC (fun i hi e=>by omega);have hv1:ErrVar w1:=hv.ext hE;have hgv:=hv.lt;have hg0:w.heap.size+2≤w1.heap.size:=by have:=hC.size;simp at this;omega
 rw [Nat.zero_add] at hS;have hk0:fC false s.data.toList≤s.size:=by have:=En s.data.toList false;omega
 have hT0:fQ (s.data.toList.length+1) s.data.toList (fC false s.data.toList) []=T:=by
  have:=hT.out;rwa [iP,if_neg (by omega)] at this
 simp only [List.drop_zero] at hS;generalize fC false s.data.toList=k0 at *;have HT0:=Z_ hT0;clear hT hT0 hC;generalize hP:w.heap.size+1=P at *;generalize hQ:w.heap.size=R at *;have HP:=Z_ hP;have HQ:=Z_ hQ;clear hP hQ;go_wp2_with fail
 have hb0:w1.ownsRow (R+2) 195 3 (.slice none 0 0) 0 []:=World.ownsRow_nil _ _ _ _;go_loopw [5] (fun v wr=>∃ (k f:Nat) (acc:List Tok),k≤s.size∧s.size<f+k∧mX wr P s k 0 0∧aH wr R #[.int .i64 0,.int .i64 0] 27∧wr.ownsRow (R+2) 195 3 v acc.length (iH s acc)∧acc.length≤k∧Ext w wr∧ErrVar wr∧R+2≤wr.heap.size∧Hid (fQ f s.data.toList k acc=T)) (fun _ wr=>s.size-zO wr P)
 case atStart=>exact⟨k0,s.data.toList.length+1,[],hk0,by omega,hS,hR,hb0,Nat.zero_le _,hE,hv1,hg0,HT0.out⟩
 case round=>
  obtain⟨k,f,acc,hk,hf,hS,hR,hown,hacc,hE,hv1,hg0,hrel⟩:=hrel;have hm:=mX.zO hS;have HM:=Z_ hm;have hpP:P<wr.heap.size:=hS.lt;have Qn:P≠R:=by have:=HP.out;have:=HQ.out;omega
  clear hm;obtain⟨f,rfl⟩:∃ f',f=f'+1:=⟨f-1,by omega⟩;have c0:=hS.cell 0;have c1:=hS.cell 1;simp only [List.getElem?_toArray,List.getElem?_cons_zero,List.getElem?_cons_succ] at c0 c1;by_cases hlt:k<s.size
  ·have hd:decide ((k:Int)<(s.size:Int))=true:=by simp;omega
   have hr:=hrel.out;rw [fQ,if_pos (by omega)] at hr;have hpos:=Mc (s.data.toList.drop k);have HN:=Z_ (fun w' h' hv'=>next_any P s k 0 0 w' h' hlt (by omega) hv' (by have:=HP.out;have:=HQ.out;omega));generalize tokF (s.data.toList.drop k)=N at *;obtain⟨kd,n,e⟩:=N;by_cases he:e=0
   ·subst he
    simp only [if_true] at hr hpos;have hn:1≤n:=hpos trivial;have HR:=Z_ hr;clear hr hpos;go_wp2_with fail
    refine(HN.out _ hS hv1).mono ?_
    rintro e w' ⟨rfl,k',hk',hk2,X0,hC'⟩;(try simp only [if_true,uu])
    have hown':=kE hown hC' (fun i hi e=>by subst e;have:=HP.out;omega);go_upto_region 14 with (fail)
    iterate 10 (go_step)
    refine rG rfl (.tmp 54) (.tmp 56) 101 rfl (R+2) 195 (.agg #[.int .i64 0,.string ⟨#[]⟩,.int .i64 0]) 3 32 Tryz.underlying101 (by kernel_rfl) rfl (by omega) _ acc.length (iH s acc) rfl (lV hown' (((aB.refl _ _).alloc _).alloc _)) _ 1 1 195 [.int .i64 kd,.string (s.extract k (k+n)),.int .i64 k] rfl (aH.made2 _ _ _ _) rfl ?c1 ?c2 ?c3 ?c4 ?_
    case c1=>intro u hu;simp at hu;rcases hu with rfl|rfl|rfl<;>rfl
    case c2=>unfold maxLen;omega
    case c3=>omega
    case c4=>have:=hC'.size;simp;omega
    intro v' w2 hown2 hC2 _;have DX:P<R+2:=by have:=HP.out;omega
    have Og:mX w2 P s k' 0 0:=((X0.alloc _).alloc _).aO hC2 (by omega);have nB:aB (fun i=>i=P∨R+2≤i) wr w2:=(((hC'.weak (fun _ _ h=>.inl h)).alloc _).alloc _).trans hC2 (fun _ _ h=>.inr h);have hR2:aH w2 R #[.int .i64 0,.int .i64 0] 27:=hR.aO nB (by omega);have hE2:Ext w w2:=hE.trans nB (fun i hi h=>by have:=HQ.out;have:=HP.out;omega);have hv2:ErrVar w2:=hv1.aO nB (by have:=HP.out;omega);have hg2:R+2≤w2.heap.size:=Nat.le_trans hg0 nB.size;obtain rfl:k'=k+n:=hk' rfl;clear X0 hC' hown' hC2 nB hk';go_wp2_with fail
    refine(vX P s (k+n) 0 0 _ Og hk2 (by omega)).mono ?_
    rintro e w3 ⟨rfl,hS3,nB⟩;go_wp2_with fail
    go_roundw
    case rel=>
     have hle:=En (s.data.toList.drop (k+n)) false;simp only [List.length_drop] at hle;refine⟨_,f,acc ++ [(kd,k,n)],by omega,by omega,hS3,hR2.aO nB (by omega),?_,by simp;omega,hE2.trans nB (fun i hi h=>by have:=HQ.out;have:=HP.out;omega),hv2.aO nB (by have:=HP.out;omega),Nat.le_trans hg2 nB.size,HR.out⟩
     have:=kE hown2 nB (fun i hi e=>by omega);rw [xk,List.length_append];exact this
    case measure=>
     rw [HM.out,mX.zO hS3];omega
   ·have hr2:([],e,k)=T:=by rw [←hr];simp only [if_neg he]
    have HR:=Z_ hr2;have hne:(e != 0)=true:=by rw [bne_iff_ne];exact he
    have HE:=Z_ he;clear hr hpos hr2 he;go_wp2_with fail
    refine(HN.out _ hS hv1).mono ?_
    rintro e w' ⟨rfl,k',hk',hk2,X0,hC'⟩;(try simp only [if_neg HE.out,uu])
    have hS3:=(X0.alloc (.cells #[.int .i64 0,.string ⟨#[]⟩,.int .i64 0] 195));have hf2:=hS3.frozen 2;have hf3:=hS3.frozen 3;have hc2:=hS3.cell 2;have hc3:=hS3.cell 3;go_wp2_with fail
    have hS4:aH (((w'.alloc (.cells #[.int .i64 0,.string ⟨#[]⟩,.int .i64 0] 195)).setCell ⟨P,2,none⟩ (.int .i64 e)).setCell ⟨P,3,none⟩ (.int .i64 k)) P #[.string s,.int .i64 k',.int .i64 e,.int .i64 k] 193:=(hS3.set 2 _).set 3 _;have Ky:aB (fun i=>i=P) wr (((w'.alloc (.cells #[.int .i64 0,.string ⟨#[]⟩,.int .i64 0] 195)).setCell ⟨P,2,none⟩ (.int .i64 e)).setCell ⟨P,3,none⟩ (.int .i64 k)):=((hC'.alloc _).setCell (fun _=>rfl) _).setCell (fun _=>rfl) _;clear hc2 hc3 hf2 hf3 hS3;generalize ((w'.alloc (.cells #[.int .i64 0,.string ⟨#[]⟩,.int .i64 0] 195)).setCell ⟨P,2,none⟩ (.int .i64 e)).setCell ⟨P,3,none⟩ (.int .i64 k)=w4 at *;have Qo:aH w4 R #[.int .i64 0,.int .i64 0] 27:=hR.aO Ky (by omega);have hc2:w4.cell? ⟨P,2,none⟩=some (.int .i64 e):=hS4.cell 2;have hc3:w4.cell? ⟨P,3,none⟩=some (.int .i64 k):=hS4.cell 3
    have hr0:w4.cell? ⟨R,0,none⟩=some (.int .i64 0):=Qo.cell 0;have hr1:w4.cell? ⟨R,1,none⟩=some (.int .i64 0):=Qo.cell 1;have hrf:=Qo.frozen;go_still_tail 5,(by kernel_rfl)
    go_wp2_with fail
    refine bodyPost_ret (mO rfl _ _ rfl ((Qo.drew.set 0 _).set 1 _) Tryz.underlying27 rfl (by kernel_rfl)) rfl ?_
    rw [←HR.out];exact⟨_,rfl,World.ownsRow_nil _ _ _ _,((hE.trans Ky (fun i hi h=>by have:=HQ.out;have:=HP.out;omega)).drew.bI (Nat.le_of_eq HQ.out) _).bI (Nat.le_of_eq HQ.out) _⟩
  ·have hd:decide ((k:Int)<(s.size:Int))=false:=by simp;omega
   have hr:=hrel.out;rw [fQ,if_neg (by omega)] at hr;have HR:=Z_ hr;clear hr;have hc2:wr.cell? ⟨P,2,none⟩=some (.int .i64 0):=hS.cell 2;have hc3:wr.cell? ⟨P,3,none⟩=some (.int .i64 0):=hS.cell 3;have hr0:wr.cell? ⟨R,0,none⟩=some (.int .i64 0):=hR.cell 0;have hr1:wr.cell? ⟨R,1,none⟩=some (.int .i64 0):=hR.cell 1;have hrf:=hR.frozen;go_wp2_with fail
   go_still_tail 6,(by kernel_rfl)
   go_wp2_with fail
   refine bodyPost_ret (mO rfl _ _ rfl ((hR.drew.set 0 _).set 1 _) Tryz.underlying27 rfl (by kernel_rfl)) rfl ?_
   rw [←HR.out];refine⟨_,rfl,?_,(hE.drew.bI (Nat.le_of_eq HQ.out) _).bI (Nat.le_of_eq HQ.out) _⟩
   rw [HQ.out];exact kE hown (((aB.refl (fun i=>i=R) _).drew.setCell (fun _=>rfl) _).setCell (fun _=>rfl) _) (fun i hi e=>by omega)
end lex
end Go.Proofs.YtpcihajmcejliacGreatDoor
namespace Go.Proofs.YtpcihajmcejliacGreatDoor
open Go.RowKit
namespace lexTells
theorem Bi (s:ByteArray) (w:World) (hs:s.size≤9223372036854775807) (hv:ErrVar w) (T:List Tok×Int×Nat) (hT:Hid (iP s.data.toList=T)) :
  Calls Tryz.prog 46 #[.string s] w fun e w'=>∃ v,e=.returned (.tuple #[v,.agg #[.int .i64 T.2.1,.int .i64 T.2.2]])∧w'.ownsRow (w.heap.size+2) 195 3 v T.1.length (iH s T.1)∧Ext w w':=by
 by_cases h:s.size≤3000
 ·exact lex.Js s w h hv T hT
 ·have hlen:s.data.toList.length=s.size:=by rw [Array.length_toList];rfl
  have:=hT.out;rw [iP,if_pos (by omega)] at this;subst this;refine(lex.Gl s w (by omega) hs).mono ?_
  rintro e w' ⟨rfl,hE⟩;exact⟨_,rfl,World.ownsRow_nil _ _ _ _,hE⟩
theorem BB (f:Nat) (l:List UInt8):∀ p acc,(fQ f l p acc).1.length≤acc.length+f:=by
 induction f with
 | zero=>intro p acc;simp [fQ]
 | succ f ih=>
  intro p acc;rw [fQ];split
  ·simp only
   split
   ·have:=ih (p+(tokF (l.drop p)).2.1+fC false (l.drop (p+(tokF (l.drop p)).2.1))) (acc ++ [((tokF (l.drop p)).1,p,(tokF (l.drop p)).2.1)])
    simp at this
    omega
   ·simp
  ·simp
end lexTells
end Go.Proofs.YtpcihajmcejliacGreatDoor
namespace Go.Proofs.YtpcihajmcejliacGreatDoor
open Go.RowKit
namespace U7
theorem Jt (l:List UInt8):nO l≤l.length:=by
 unfold nO;split
 ·rename_i h
  have:=(List.isPrefixOf_iff_prefix.1 h).length_le;simpa using this
 ·split
  ·simp
  ·split<;>simp
end U7
end Go.Proofs.YtpcihajmcejliacGreatDoor
namespace Go.Proofs.YtpcihajmcejliacGreatDoor
open Go.RowKit
namespace again
def Good (l:List UInt8) (t:Tok):Prop:=tokF (l.drop t.2.1)=(t.1,t.2.2,0)∧t.2.1+t.2.2≤l.length∧t.2.1<l.length
theorem Ju (p:Int→Bool) (m:List UInt8):m.take (runN p m)=m.takeWhile fun c=>p c.toNat:=by
 unfold runN;induction m with
 | nil=>rfl
 | cons c r ih=>
  simp only [List.takeWhile_cons];split
  ·simp [ih]
  ·rfl
theorem BC (c:UInt8) (h:iO c.toNat=true∨iK c.toNat=true):¬ (c=32∨c=10)∧c≠35:=by
 refine⟨?_,?_⟩
 ·rintro (rfl|rfl)<;>exact absurd h (by decide)
 ·rintro rfl;exact absurd h (by decide)
theorem Md (l:List UInt8):(tokF l).2.1≤l.length:=by
 cases l with
 | nil=>simp [tokF]
 | cons c r=>
  simp only [tokF];split
  ·exact zi _ _
  ·split
   ·exact zi _ _
   ·exact U7.Jt _
theorem xW (l:List UInt8):∀ (f p:Nat) (acc:List Tok),(∀ t∈acc,Good l t)→(∀ t∈(fQ f l p acc).1,Good l t)∧((fQ f l p acc).1.map (·.2.2)).sum≤(acc.map (·.2.2)).sum+(l.length-p):=by
 intro f;induction f with
 | zero=>intro p acc h;simp [fQ]
 | succ f ih=>
  intro p acc h;rw [fQ];split
  ·rename_i hp
   simp only
   split
   ·rename_i he
    have hle:=Md (l.drop p);rw [List.length_drop] at hle
    have hg:Good l ((tokF (l.drop p)).1,p,(tokF (l.drop p)).2.1):=by
     refine⟨?_,by simp only;omega,hp⟩
     simp only
     rw [←he]
    obtain⟨i1,i2⟩:=ih (p+(tokF (l.drop p)).2.1+fC false (l.drop (p+(tokF (l.drop p)).2.1))) (acc ++ [((tokF (l.drop p)).1,p,(tokF (l.drop p)).2.1)]) (by
     intro t ht;rcases List.mem_append.1 ht with ht|ht
     ·exact h t ht
     ·simp at ht;subst ht;exact hg)
    refine⟨i1,Nat.le_trans i2 ?_⟩
    simp only [List.map_append,List.map_cons,List.map_nil,List.sum_append,List.sum_cons,List.sum_nil];omega
   ·exact⟨by simp,by simp⟩
  ·exact⟨h,by simp only;omega⟩
end again
end Go.Proofs.YtpcihajmcejliacGreatDoor
namespace Go.Proofs.YtpcihajmcejliacGreatDoor
open Go.RowKit
def iW:List (List UInt8):=[[100,111],[101,108,115,101],[103,105,118,101,115],[104,105,103,104],[105,102],[105,109,112,111,114,116],[105,110],[108,111,119],[109,111,100,117,108,101],[111,117,116],[112,114,111,99],[112,117,98],[114,101,116,117,114,110],[119,104,105,108,101]]
def headB:List UInt8→Bool
 | []=>false
 | c::_=>iO c.toNat
def jD (l:List UInt8):Bool:=headB l&&decide (l.length≤16)&&l.all fun c=>dS c.toNat
def nameB (l:List UInt8):Bool:=jD l && !iW.contains l
namespace name
theorem BD (p:Int→Bool) (l:List UInt8):runN p l=l.length↔l.all (fun c=>p c.toNat)=true:=by
 unfold runN;induction l with
 | nil=>simp
 | cons c r ih=>
  rw [List.takeWhile_cons];by_cases h:p c.toNat=true
  ·simp only [h,if_true,List.length_cons,List.all_cons,Bool.true_and,←ih];omega
  ·simp [h]
theorem Gi (l:List UInt8) (h:jD l=true):iP l=([(1,0,l.length)],0,0):=by
 simp only [jD,Bool.and_eq_true,decide_eq_true_eq] at h;obtain⟨⟨h1,h2⟩,h3⟩:=h;cases l with
 | nil=>simp [headB] at h1
 | cons c r=>
  simp only [headB] at h1;have hs:fC false (c::r)=0:=xP c r (again.BC c (.inl h1)).1 (again.BC c (.inl h1)).2;have hr:runN dS (c::r)=(c::r).length:=(BD _ _).2 h3
  have ht:tokF (c::r)=(1,(c::r).length,0):=by
   simp only [tokF,h1,if_true,hr];rw [if_neg (by omega)]
  rw [iP,if_neg (by omega),hs,fQ,if_pos (by simp),List.drop_zero,ht];simp only [if_true,Nat.zero_add,List.drop_length,fC,Nat.add_zero,List.nil_append];show fQ (r.length+1) _ _ _=_
  rw [fQ,if_neg (by simp)]
theorem zu (l:List UInt8) (p n:Nat) (a:Nat) (h:iP l=([(1,p,n)],0,a)) (ht:(l.drop p).take n=l):jD l=true:=by
 have hl:l.length≤3000:=by
  rcases Nat.lt_or_ge 3000 l.length with h'|h'
  ·rw [iP,if_pos h'] at h;simp at h
  ·exact h'
 rw [iP,if_neg (by omega)] at h;have hg:=(again.xW l (l.length+1) (fC false l) [] (by simp)).1;rw [h] at hg;obtain⟨g1,g2,g3⟩:=hg (1,p,n) (by simp);simp only at g1 g2 g3;have hlen:=congrArg List.length ht;rw [List.length_take,List.length_drop] at hlen;obtain rfl:p=0:=by omega
 obtain rfl:n=l.length:=by omega
 rw [List.drop_zero] at g1;cases l with
 | nil=>simp at g3
 | cons c r=>
  simp only [tokF] at g1;by_cases hc:iO c.toNat=true
  ·simp only [hc,if_true,Prod.mk.injEq,true_and] at g1
   obtain⟨k1,k2⟩:=g1
   have h16:(c::r).length≤16:=by
    rcases Nat.lt_or_ge 16 (runN dS (c::r)) with h'|h'
    ·rw [if_pos h'] at k2;simp at k2
    ·omega
   simp only [jD,headB,hc,Bool.true_and,Bool.and_eq_true,decide_eq_true_eq];exact⟨h16,(BD _ _).1 k1⟩
  ·have hc':iO c.toNat=false:=by simpa using hc
   simp only [hc',Bool.false_eq_true,if_false] at g1;split at g1<;>simp at g1
def row:List (List UInt8)→List UInt8
 | []=>[32]
 | x::r=>32::(x++row r)
theorem Jv (ws:List (List UInt8)):∃ r,row ws=32::r:=by cases ws<;>exact⟨_,rfl⟩
theorem BF (x y a b:List UInt8) (hx:∀ c∈x,c≠32) (hy:∀ c∈y,c≠32) (h:x++32::a=y++32::b):x=y:=by
 induction x generalizing y with
 | nil=>
  cases y with
  | nil=>rfl
  | cons d q=>simp at h;exact absurd h.1.symm (hy d (by simp))
 | cons c r ih=>
  cases y with
  | nil=>simp at h;exact absurd h.1 (hx c (by simp))
  | cons d q=>
   simp at h
   rw [h.1,ih q (fun c hc=>hx c (by simp [hc])) (fun c hc=>hy c (by simp [hc])) h.2]
theorem Gm (s:List UInt8) (hs:∀ c∈s,c≠32):∀ ws:List (List UInt8),(∀ x∈ws,∀ c∈x,c≠32)→((32::(s ++ [32])) <:+: row ws↔s∈ws):=by
 intro ws;induction ws with
 | nil=>
  intro _;simp only [row,List.not_mem_nil,iff_false];intro h;have:=h.length_le;simp at this
 | cons x r ih=>
  intro hw;have hx:=hw x (by simp);have ihr:=ih (fun y hy=>hw y (by simp [hy]));obtain⟨q,hq⟩:=Jv r;constructor
  ·rintro ⟨a,b,hab⟩
   simp only [row] at hab;cases a with
   | nil=>
    have e:s++32::b=x++32::q:=by
     rw [←hq];simpa using hab
    simp [BF s x b q hs hx e]
   | cons c a'=>
    refine List.mem_cons_of_mem _ (ihr.1 ?_)
    have e:a'++(32::(s ++ [32]))++b=x++row r:=by
     have:=hab;simp only [List.cons_append,List.cons.injEq] at this;exact this.2
    clear hab ih ihr;induction x generalizing a' with
    | nil=>exact⟨a',b,by simpa using e⟩
    | cons d x' ihx=>
     cases a' with
     | nil=>
      simp only [List.nil_append,List.cons_append,List.cons.injEq] at e;exact absurd e.1.symm (hx d (by simp))
     | cons c' a''=>
      simp only [List.cons_append,List.cons.injEq] at e
      exact ihx (fun y hy=>by
       rcases List.mem_cons.1 hy with rfl|hy
       ·exact fun c hc=>hx c (by simp [hc])
       ·exact hw y (by simp [hy])) (fun c hc=>hx c (by simp [hc])) a'' e.2
  ·intro h
   rcases List.mem_cons.1 h with rfl|h
   ·exact⟨[],q,by simp [row,hq]⟩
   ·obtain⟨a,b,hab⟩:=ihr.2 h
    exact⟨32::(x++a),b,by simp [row,←hab]⟩
theorem contains_iff (s sub:List UInt8):Lib.contains s sub=true↔sub <:+: s:=by
 simp only [Lib.contains,decide_eq_true_eq];rcases Lib.index_spec s sub with ⟨h1,h2⟩|⟨i,h1,h2,h3,_⟩
 ·rw [h1]
  constructor
  ·intro h;omega
  ·rintro ⟨a,b,rfl⟩
   have:=h2 a.length (by simp)
   have h3:Lib.occAt (a++sub++b) sub a.length=true:=by
    rw [Lib.occAt,List.append_assoc,List.drop_left];exact List.isPrefixOf_iff_prefix.2 ⟨b,rfl⟩
   rw [h3] at this;cases this
 ·rw [h1]
  constructor
  ·intro _
   obtain⟨b,hb⟩:=List.isPrefixOf_iff_prefix.1 h3;exact⟨s.take i,b,by rw [List.append_assoc,hb,List.take_append_drop]⟩
  ·intro _;omega
theorem Gn:row iW=[32,100,111,32,101,108,115,101,32,103,105,118,101,115,32,104,105,103,104,32,105,102,32,105,109,112,111,114,116,32,105,110,32,108,111,119,32,109,111,100,117,108,101,32,111,117,116,32,112,114,111,99,32,112,117,98,32,114,101,116,117,114,110,32,119,104,105,108,101,32]:=by decide
theorem pz (l:List UInt8) (h:jD l=true):Lib.contains [32,100,111,32,101,108,115,101,32,103,105,118,101,115,32,104,105,103,104,32,105,102,32,105,109,112,111,114,116,32,105,110,32,108,111,119,32,109,111,100,117,108,101,32,111,117,116,32,112,114,111,99,32,112,117,98,32,114,101,116,117,114,110,32,119,104,105,108,101,32] (32::(l ++ [32]))=iW.contains l:=by
 rw [Bool.eq_iff_iff,contains_iff,←Gn,Gm l,List.contains_iff_mem]
 ·intro c hc e
  subst e;simp only [jD,Bool.and_eq_true,List.all_eq_true] at h;exact absurd (h.2 _ hc) (by decide)
 ·have key:∀ x∈iW,∀ c∈x,c≠32:=by decide
  exact key
end name
end Go.Proofs.YtpcihajmcejliacGreatDoor
