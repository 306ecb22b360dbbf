/- The walks of lex.number and scanner.next. The walk of scanner.next. The walk of lex.Scan. The program's Scan, of every text; what its tokens are in memory. The walks of the reference's package 2: bytes, signs. Tokens written one behind the other, with a blank between: plain Lean. Names, in plain Lean. -/
import Derived.Test.YtpcihajmcejliacGreatDoorShelf
import Derived.Deep.OwnRows
import Derived.RegionTactic
import Derived.ChangeAlike
import Derived.WalkLawsBesides
import Derived.Lib.IndexMore
import Derived.Test.YtpcihajmcejliacGreatDoorLexNum
namespace Go.Proofs.YtpcihajmcejliacGreatDoor
open Go.RowKit
def ErrVar (w:World):Prop:=∃ tp p,w.var? Tryz.prog "strconv.ErrRange" = some #[.iface tp p]
theorem ErrVar.named:Tryz.prog.globalNamed "strconv.ErrRange" = some 6:=by kernel_rfl
theorem ErrVar.lt {w:World} (h:ErrVar w):6 < w.heap.size:=by
 obtain⟨tp,p,h⟩:=h;simp only [World.var?,ErrVar.named,Option.bind_some] at h;rcases Nat.lt_or_ge 6 w.heap.size with h'|h'
 ·exact h'
 ·rw [Array.getElem?_eq_none h'] at h;cases h
theorem ErrVar.aU {S:Nat→Prop} {w w':World} (h:ErrVar w) (hc:aB S w w') (hn:¬ S 6):ErrVar w':=by
 have hl:=h.lt;obtain⟨tp,p,h⟩:=h;refine⟨tp,p,?_⟩
 simp only [World.var?,ErrVar.named,Option.bind_some] at h ⊢;rw [hc.block _ hl hn];exact h
theorem ErrVar.ext {w w':World} (h:ErrVar w) (hc:Ext w w'):ErrVar w':=h.aU hc id
namespace lex
def Ad (k:Int) (t:ByteArray) (a:Int):Value:=.agg #[.int .i64 k,.string t,.int .i64 a]
theorem D5 (w:World) (e:TypeId) (s:ByteArray):Ext w (Lib.bytesWorld w e s):=
 ⟨by simp [Lib.bytesWorld,World.freeze];rfl,by simp [Lib.bytesWorld,World.freeze],by simp [Lib.bytesWorld,World.freeze];rfl,by rw [Lib.bytesWorld_size];omega,fun k hk _=>Lib.bytesWorld_at_old _ _ _ _ hk⟩
theorem RU (s:ByteArray) (hs:s.size≤100000) (hd:pI s.data.toList=true) (hn:s.data.toList≠[]) (hl:decFrom 0 s.data.toList<9223372036854775808) (w:World) :
  Calls Tryz.prog 223 #[.string s,.int .i64 10,.int .i64 64] w fun e w'=>e=.returned (.tuple #[.int .i64 (decFrom 0 s.data.toList),.nilIface])∧Ext w w':=by
 have h:=xh _ hd hn;rw [if_pos hl] at h;refine(Tryz.strconv_ParseInt_10_at64_ok s (by omega) _ h w).mono ?_
 rintro e w' ⟨rfl,rfl|⟨t,rfl⟩⟩
 ·exact⟨rfl,aB.refl _ _⟩
 ·exact⟨rfl,D5 _ _ _⟩
theorem H9 (s:ByteArray) (hs:s.size≤100000) (hd:pI s.data.toList=true) (hn:s.data.toList≠[]) (hl:¬ decFrom 0 s.data.toList<9223372036854775808) (w:World) (hv:ErrVar w) :
  Calls Tryz.prog 223 #[.string s,.int .i64 10,.int .i64 64] w fun e w'=>∃ v T p,e=.returned (.tuple #[.int .i64 v,.iface T p])∧Ext w w':=by
 have h:=xh _ hd hn;rw [if_neg hl] at h;obtain⟨tp,p,hv⟩:=hv;refine(Tryz.strconv_ParseInt_10_at64_range_var s (by omega) h tp p w hv).mono ?_
 rintro e w' ⟨N,rfl,_,_,hB⟩;exact⟨_,_,_,rfl,Below.qp hB⟩
set_option maxRecDepth 100000 in
set_option maxHeartbeats 1000000 in
theorem H_ (s:ByteArray) (w:World) (hs:s.size≤100000) (hf:pI s.data.toList=false) :
  Calls Tryz.prog 170 #[.string s] w fun e w'=>e=.returned (.tuple #[Ad 0 ⟨#[]⟩ 0,.int .i64 2])∧Ext w w':=by
 obtain⟨r,hr⟩:∃ r,Lib.trimS s.data.toList [48,49,50,51,52,53,54,55,56,57]=r:=⟨_,rfl⟩
 have hne:r≠[]:=by
  rw [←hr];intro h;rw [(qO _).1 h] at hf;cases hf
 have c1:=fun w=>Tryz.strings_Trim_digits s w (by omega)
 rw [hr] at c1;have C1:=Z_ c1;have hb1:r.isEmpty=false:=by cases r<;>simp_all
 clear c1 hr hf hne;go_enter Tryz.func170,Tryz.ntmps170
 go_wp2_with (go_at_call 225;refine(C1.out _).mono ?_;rintro e w' ⟨rfl,hB⟩;have hE:=((aB.refl (fun _=>False) w).alloc _).ext (Below.qp hB);have hK:=(aJ.made _ _ _).ext (Below.qp hB);have hKc:=hK.cell;have hKf:=hK.frozen)
 exact bodyPost_ret (dQ rfl _ _ rfl (((hK.set 0 _).set 1 _).set 2 _) Tryz.underlying195 rfl (by kernel_rfl)) rfl ⟨rfl,((hE.bM (Nat.le_refl _) _).bM (Nat.le_refl _) _).bM (Nat.le_refl _) _⟩
set_option maxRecDepth 100000 in
set_option maxHeartbeats 1000000 in
theorem Dq (s:ByteArray) (w:World) (hs:s.size≤100000) (hf:pI s.data.toList=true) (h1:1<s.size) (h0:s.data.toList.head? = some 48) :
  Calls Tryz.prog 170 #[.string s] w fun e w'=>e=.returned (.tuple #[Ad 0 ⟨#[]⟩ 0,.int .i64 2])∧Ext w w':=by
 have c1:=fun w=>Tryz.strings_Trim_digits s w (by omega)
 rw [(qO _).2 hf] at c1;have C1:=Z_ c1
 have hz:((s[0].toNat:Int) == 48)=true:=by
  have:s.data.toList[0]? = some 48:=by rw [←List.head?_eq_getElem?];exact h0
  rw [List.getElem?_eq_getElem (by simpa using (show 0<s.data.size from by have e:s.data.size=s.size:=rfl;omega))] at this;have e:s[0]=48:=Option.some.inj this;rw [e];rfl
 clear c1 hf h0;go_enter Tryz.func170,Tryz.ntmps170
 go_wp2_with (go_at_call 225;refine(C1.out _).mono ?_;rintro e w' ⟨rfl,hB⟩;have hE:=((aB.refl (fun _=>False) w).alloc _).ext (Below.qp hB);have hK:=(aJ.made _ _ _).ext (Below.qp hB);have hKc:=hK.cell;have hKf:=hK.frozen)
 exact bodyPost_ret (dQ rfl _ _ rfl (((hK.set 0 _).set 1 _).set 2 _) Tryz.underlying195 rfl (by kernel_rfl)) rfl ⟨rfl,((hE.bM (Nat.le_refl _) _).bM (Nat.le_refl _) _).bM (Nat.le_refl _) _⟩
set_option maxRecDepth 100000 in
set_option maxHeartbeats 1000000 in
theorem Fq (s:ByteArray) (w:World) (hs:s.size≤100000) (hf:pI s.data.toList=true) (hn:s.data.toList≠[]) (hz:∀ _:1<s.size,((s[0]!.toNat:Int) == 48)=false) (hl:¬ decFrom 0 s.data.toList<9223372036854775808) (hv:ErrVar w) :
  Calls Tryz.prog 170 #[.string s] w fun e w'=>e=.returned (.tuple #[Ad 0 ⟨#[]⟩ 0,.int .i64 6])∧Ext w w':=by
 have c1:=fun w=>Tryz.strings_Trim_digits s w (by omega)
 rw [(qO _).2 hf] at c1;have C1:=Z_ c1;have C2:=Z_ (H9 s hs hf hn hl);clear c1 hf hn hl;by_cases h1:1<s.size
 ·have hz:=hz h1
  rw [getElem!_pos s 0 (by omega)] at hz;go_enter Tryz.func170,Tryz.ntmps170
  go_wp2_with (first|(go_at_call 225;refine(C1.out _).mono ?_;rintro e w' ⟨rfl,hB⟩;have hE:=((aB.refl (fun _=>False) w).alloc _).ext (Below.qp hB);have hK:=(aJ.made _ _ _).ext (Below.qp hB))|(go_at_call 223;refine(C2.out _ (hv.ext hE)).mono ?_;rintro e w2 ⟨v,T,p,rfl,hE2⟩;have hK2:=hK.ext hE2;have hKc:=hK2.cell;have hKf:=hK2.frozen))
  exact bodyPost_ret (dQ rfl _ _ rfl (((hK2.set 0 _).set 1 _).set 2 _) Tryz.underlying195 rfl (by kernel_rfl)) rfl ⟨rfl,(((hE.ext hE2).bM (Nat.le_refl _) _).bM (Nat.le_refl _) _).bM (Nat.le_refl _) _⟩
 ·clear hz
  go_enter Tryz.func170,Tryz.ntmps170
  go_wp2_with (first|(go_at_call 225;refine(C1.out _).mono ?_;rintro e w' ⟨rfl,hB⟩;have hE:=((aB.refl (fun _=>False) w).alloc _).ext (Below.qp hB);have hK:=(aJ.made _ _ _).ext (Below.qp hB))|(go_at_call 223;refine(C2.out _ (hv.ext hE)).mono ?_;rintro e w2 ⟨v,T,p,rfl,hE2⟩;have hK2:=hK.ext hE2;have hKc:=hK2.cell;have hKf:=hK2.frozen))
  exact bodyPost_ret (dQ rfl _ _ rfl (((hK2.set 0 _).set 1 _).set 2 _) Tryz.underlying195 rfl (by kernel_rfl)) rfl ⟨rfl,(((hE.ext hE2).bM (Nat.le_refl _) _).bM (Nat.le_refl _) _).bM (Nat.le_refl _) _⟩
set_option maxRecDepth 100000 in
set_option maxHeartbeats 1000000 in
theorem Ia (s:ByteArray) (w:World) (hs:s.size≤100000) (hf:pI s.data.toList=true) (hn:s.data.toList≠[]) (hz:∀ _:1<s.size,((s[0]!.toNat:Int) == 48)=false) (hl:decFrom 0 s.data.toList<9223372036854775808) :
  Calls Tryz.prog 170 #[.string s] w fun e w'=>e=.returned (.tuple #[Ad 2 s 0,.int .i64 0])∧Ext w w':=by
 have c1:=fun w=>Tryz.strings_Trim_digits s w (by omega)
 rw [(qO _).2 hf] at c1;have C1:=Z_ c1;have C2:=Z_ (RU s hs hf hn hl);clear c1 hf hn hl;by_cases h1:1<s.size
 ·have hz:=hz h1
  rw [getElem!_pos s 0 (by omega)] at hz;go_enter Tryz.func170,Tryz.ntmps170
  go_wp2_with (first|(go_at_call 225;refine(C1.out _).mono ?_;rintro e w' ⟨rfl,hB⟩;have hE:=((aB.refl (fun _=>False) w).alloc _).ext (Below.qp hB);have hK:=(aJ.made _ _ _).ext (Below.qp hB))|(go_at_call 223;refine(C2.out _).mono ?_;rintro e w2 ⟨rfl,hE2⟩;have hK2:=hK.ext hE2;have hKc:=hK2.cell;have hKf:=hK2.frozen))
  exact bodyPost_ret (dQ rfl _ _ rfl (((hK2.set 0 _).set 1 _).set 2 _) Tryz.underlying195 rfl (by kernel_rfl)) rfl ⟨rfl,(((hE.ext hE2).bM (Nat.le_refl _) _).bM (Nat.le_refl _) _).bM (Nat.le_refl _) _⟩
 ·clear hz
  go_enter Tryz.func170,Tryz.ntmps170
  go_wp2_with (first|(go_at_call 225;refine(C1.out _).mono ?_;rintro e w' ⟨rfl,hB⟩;have hE:=((aB.refl (fun _=>False) w).alloc _).ext (Below.qp hB);have hK:=(aJ.made _ _ _).ext (Below.qp hB))|(go_at_call 223;refine(C2.out _).mono ?_;rintro e w2 ⟨rfl,hE2⟩;have hK2:=hK.ext hE2;have hKc:=hK2.cell;have hKf:=hK2.frozen))
  exact bodyPost_ret (dQ rfl _ _ rfl (((hK2.set 0 _).set 1 _).set 2 _) Tryz.underlying195 rfl (by kernel_rfl)) rfl ⟨rfl,(((hE.ext hE2).bM (Nat.le_refl _) _).bM (Nat.le_refl _) _).bM (Nat.le_refl _) _⟩
theorem qx (s:ByteArray) (w:World) (hs:s.size≤100000) (h0:0<s.size) (hv:ErrVar w) :
  Calls Tryz.prog 170 #[.string s] w fun e w'=>e=.returned (.tuple #[if iK s.data.toList=0 then Ad 2 s 0 else Ad 0 ⟨#[]⟩ 0,.int .i64 (iK s.data.toList)])∧Ext w w':=by
 have hsz:s.data.toList.length=s.size:=by rw [Array.length_toList];rfl
 have hn:s.data.toList≠[]:=by intro h;rw [h] at hsz;simp at hsz;omega
 have hh:s.data.toList.head? = some s[0]:=by
  rw [List.head?_eq_getElem?,List.getElem?_eq_getElem (by omega)];rfl
 cases hd:pI s.data.toList
 ·have e:iK s.data.toList=2:=by rw [iK,if_pos hd]
  rw [e];exact H_ s w hs hd
 ·by_cases hz:1<s.size∧s.data.toList.head? = some 48
  ·have e:iK s.data.toList=2:=by rw [iK,if_neg (by simp [hd]),if_pos ⟨by omega,hz.2⟩]
   rw [e];exact Dq s w hs hd hz.1 hz.2
  ·have hz':∀ _:1<s.size,((s[0]!.toNat:Int) == 48)=false:=by
    intro h1;rw [getElem!_pos s 0 (by omega),beq_eq_false_iff_ne];intro e;exact hz ⟨h1,by rw [hh,(BC s[0] 48).1 e]⟩
   by_cases hl:decFrom 0 s.data.toList<9223372036854775808
   ·have e:iK s.data.toList=0:=by rw [iK,if_neg (by simp [hd]),if_neg (by rw [hsz];exact hz),if_neg (by omega)]
    rw [e];exact Ia s w hs hd hn hz' hl
   ·have e:iK s.data.toList=6:=by rw [iK,if_neg (by simp [hd]),if_neg (by rw [hsz];exact hz),if_pos (by omega)]
    rw [e];exact Fq s w hs hd hn hz' hl hv
end lex
end Go.Proofs.YtpcihajmcejliacGreatDoor
namespace Go.Proofs.YtpcihajmcejliacGreatDoor
open Go.RowKit
def rS:List UInt8:=[123,125,40,41,91,93,59,44,46,61,60,43,45,42,47,37,38,124,33]
def nN (l:List UInt8):Nat:=if Lib.hasPrefix l [61,61]=true then 2 else match l with|[]=>0|c::_=>if rS.contains c then 1 else 0
def tokF (l:List UInt8):Int×Nat×Int:=
 match l with
 | []=>(0,0,2)
 | c::_=>
  if iU c.toNat then (1,runN eM l,if 16<runN eM l then 1 else 0)
  else if jy c.toNat then (2,runN eM l,iK (l.take (runN eM l)))
  else (3,nN l,if nN l=0 then 2 else 0)
namespace lex
theorem kD (s:ByteArray) (k n:Nat):(s.extract k (k+n)).data.toList=(s.data.toList.drop k).take n:=by
 simp [ByteArray.data_extract]
theorem Ib (s:ByteArray) (k:Nat):(s.extract k s.size).data.toList=s.data.toList.drop k:=by
 have e:s.data.size=s.size:=rfl;simp only [ByteArray.data_extract,Array.toList_extract,List.extract_eq_take_drop];rw [List.take_of_length_le (by simp)]
def xR (p:Nat) (s:ByteArray) (k:Nat) (c f:Int) (w:World) (T:Int×Nat×Int) (e:Ending) (w':World):Prop:=
 e=.returned (.tuple #[if T.2.2=0 then Ad T.1 (s.extract k (k+T.2.1)) 0 else Ad 0 ⟨#[]⟩ 0,.int .i64 T.2.2])∧∃ k':Nat,(T.2.2=0→k'=k+T.2.1)∧k'≤s.size∧rU w' p s k' c f∧aB (fun i=>i=p) w w'
theorem Ko {w:World} {p b:Nat} {s:ByteArray} {k:Nat} {c f:Int} (h:rU w p s k c f) (hp:p≠b) (x y z:Value):rU (((w.setCell ⟨b,0,none⟩ x).setCell ⟨b,1,none⟩ y).setCell ⟨b,2,none⟩ z) p s k c f:=
 ((h.setOther hp _).setOther hp _).setOther hp _
theorem Kq {S:Nat→Prop} {a w:World} {b:Nat} (h:aB S a w) (hb:a.heap.size≤b) (x y z:Value):aB S a (((w.setCell ⟨b,0,none⟩ x).setCell ⟨b,1,none⟩ y).setCell ⟨b,2,none⟩ z):=
 ((h.bM hb _).bM hb _).bM hb _
set_option maxRecDepth 100000 in
set_option maxHeartbeats 1000000 in
theorem Ic (p:Nat) (s:ByteArray) (k:Nat) (c f:Int) (w:World) (h:rU w p s k c f) (hk:k<s.size) (hs:s.size≤100000) (hl:iU s[k].toNat=true) :
  Calls Tryz.prog 93 #[.pointer (some ⟨p,0,none⟩)] w (xR p s k c f w (tokF (s.data.toList.drop k))):=by
 generalize hT:tokF (s.data.toList.drop k)=T;rw [drop_cons s k hk] at hT;simp only [tokF,hl,if_true] at hT;rw [←drop_cons s k hk] at hT;have hp:=h.lt;have hpn:p≠w.heap.size:=by omega
 have c0:=h.cell 0;have c1:=h.cell 1;have f1:=h.frozen 1;simp only [List.getElem?_toArray,List.getElem?_cons_zero,List.getElem?_cons_succ] at c0 c1;have cc:=uj (s[k].toNat:Int);rw [hl] at cc;have CC:=Z_ cc;have hroom:=vW eM s k (by omega);obtain⟨n,hn⟩:∃ n,runN eM (s.data.toList.drop k)=n:=⟨_,rfl⟩;have C2:=Z_ (fun w' h'=>Hv p s k c f w' h' (by omega) hs);rw [hn] at hT hroom C2;clear cc hl hn;by_cases h16:16<n
 ·rw [if_pos h16] at hT
  have HT:=Z_ hT;clear hT;go_enter Tryz.func93,Tryz.ntmps93
  go_wp2_with fail
  go_quiet (fail)
  go_wp2_with (first|(go_at_call 167;refine(CC.out _).mono ?_;rintro e w' ⟨rfl,rfl⟩)|(go_at_call 164;refine(C2.out _ ((h.alloc _).drewN _)).mono ?_;rintro e w' ⟨rfl,hS,hC⟩;have hK:=((aJ.made w _ _).drewN _).aU hC (fun e=>hpn e.symm);have hKc:=hK.cell;have hKf:=hK.frozen))
  refine bodyPost_ret (dQ rfl _ _ rfl (((hK.set 0 _).set 1 _).set 2 _) Tryz.underlying195 rfl (by kernel_rfl)) rfl ?_
  rw [←HT.out];exact⟨rfl,k+n,fun _=>rfl,hroom,Ko hS hpn _ _ _,Kq ((((aB.refl _ w).alloc _).drewN _).then hC) (Nat.le_refl _) _ _ _⟩
 ·rw [if_neg h16] at hT
  have HT:=Z_ hT;clear hT;go_enter Tryz.func93,Tryz.ntmps93
  go_wp2_with fail
  go_quiet (fail)
  go_wp2_with (first|(go_at_call 167;refine(CC.out _).mono ?_;rintro e w' ⟨rfl,rfl⟩)|(go_at_call 164;refine(C2.out _ ((h.alloc _).drewN _)).mono ?_;rintro e w' ⟨rfl,hS,hC⟩;have hK:=((aJ.made w _ _).drewN _).aU hC (fun e=>hpn e.symm);have hKc:=hK.cell;have hKf:=hK.frozen))
  refine bodyPost_ret (dQ rfl _ _ rfl (((hK.set 0 _).set 1 _).set 2 _) Tryz.underlying195 rfl (by kernel_rfl)) rfl ?_
  rw [←HT.out];exact⟨rfl,k+n,fun _=>rfl,hroom,Ko hS hpn _ _ _,Kq ((((aB.refl _ w).alloc _).drewN _).then hC) (Nat.le_refl _) _ _ _⟩
set_option maxRecDepth 100000 in
set_option maxHeartbeats 1000000 in
theorem Kr (p:Nat) (s:ByteArray) (k:Nat) (c f:Int) (w:World) (h:rU w p s k c f) (hk:k<s.size) (hs:s.size≤100000) (hl:iU s[k].toNat=false) (hd:jy s[k].toNat=true) (hv:ErrVar w) (hvp:p≠6) :
  Calls Tryz.prog 93 #[.pointer (some ⟨p,0,none⟩)] w (xR p s k c f w (tokF (s.data.toList.drop k))):=by
 generalize hT:tokF (s.data.toList.drop k)=T;rw [drop_cons s k hk] at hT;simp only [tokF,hl,hd,Bool.false_eq_true,if_false,if_true] at hT;rw [←drop_cons s k hk] at hT;have hp:=h.lt;have hpn:p≠w.heap.size:=by omega
 have c0:=h.cell 0;have c1:=h.cell 1;have f1:=h.frozen 1;simp only [List.getElem?_toArray,List.getElem?_cons_zero,List.getElem?_cons_succ] at c0 c1;have cc:=uj (s[k].toNat:Int);rw [hl] at cc;have CC:=Z_ cc;have cd:=yY (s[k].toNat:Int);rw [hd] at cd;have CD:=Z_ cd;have hroom:=vW eM s k (by omega)
 have hpos:0<runN eM (s.data.toList.drop k):=by
  rw [sJ eM s k hk (by unfold eM;rw [hd];simp)];omega
 obtain⟨n,hn⟩:∃ n,runN eM (s.data.toList.drop k)=n:=⟨_,rfl⟩;have C2:=Z_ (fun w' h'=>Hv p s k c f w' h' (by omega) hs);rw [hn] at hT hroom C2 hpos;have c3:=fun w' hv'=>qx (s.extract k (k+n)) w' (by simp;omega) (by simp;omega) hv'
 rw [kD] at c3;clear cc cd hl hd hn;by_cases h0:iK ((s.data.toList.drop k).take n)=0
 ·rw [if_pos h0,h0] at c3
  rw [h0] at hT;have C3:=Z_ c3;have HT:=Z_ hT;clear hT c3 h0;go_enter Tryz.func93,Tryz.ntmps93
  go_wp2_with fail
  go_quiet (fail)
  go_wp2_with (first|(go_at_call 167;refine(CC.out _).mono ?_;rintro e w' ⟨rfl,rfl⟩)|(go_at_call 169;refine(CD.out _).mono ?_;rintro e w' ⟨rfl,rfl⟩)|(go_at_call 164;refine(C2.out _ ((h.alloc _).drewN _)).mono ?_;rintro e w' ⟨rfl,hS,hC⟩;have hK:=((aJ.made w _ _).drewN _).aU hC (fun e=>hpn e.symm))|(go_at_call 170;refine(C3.out _ ((((hv.ext ((aB.refl _ w).alloc _)).ext ((aB.refl _ _).drewN _)).aU hC (fun e=>hvp e.symm)))).mono ?_;rintro e w3 ⟨rfl,hE⟩;have hK2:=hK.ext hE;have Xc:=hS.ext hE;have hKc:=hK2.cell;have hKf:=hK2.frozen;unfold Ad))
  refine bodyPost_ret (dQ rfl _ _ rfl (((hK2.set 0 _).set 1 _).set 2 _) Tryz.underlying195 rfl (by kernel_rfl)) rfl ?_
  rw [←HT.out];exact⟨rfl,k+n,fun _=>rfl,hroom,Ko Xc hpn _ _ _,Kq (((((aB.refl _ w).alloc _).drewN _).then hC).ext hE) (Nat.le_refl _) _ _ _⟩
 ·obtain⟨q,hq⟩:∃ q,iK ((s.data.toList.drop k).take n)=q:=⟨_,rfl⟩
  rw [if_neg h0] at c3;rw [hq] at hT c3 h0;have C3:=Z_ c3;have HT:=Z_ hT;have H0:=Z_ h0;clear hT c3 h0 hq;go_enter Tryz.func93,Tryz.ntmps93
  go_wp2_with fail
  go_quiet (fail)
  go_wp2_with (first|(go_at_call 167;refine(CC.out _).mono ?_;rintro e w' ⟨rfl,rfl⟩)|(go_at_call 169;refine(CD.out _).mono ?_;rintro e w' ⟨rfl,rfl⟩)|(go_at_call 164;refine(C2.out _ ((h.alloc _).drewN _)).mono ?_;rintro e w' ⟨rfl,hS,hC⟩;have hK:=((aJ.made w _ _).drewN _).aU hC (fun e=>hpn e.symm))|(go_at_call 170;refine(C3.out _ ((((hv.ext ((aB.refl _ w).alloc _)).ext ((aB.refl _ _).drewN _)).aU hC (fun e=>hvp e.symm)))).mono ?_;rintro e w3 ⟨rfl,hE⟩;have hK2:=hK.ext hE;have Xc:=hS.ext hE;have hKc:=hK2.cell;have hKf:=hK2.frozen;unfold Ad))
  refine bodyPost_ret (dQ rfl _ _ rfl (((hK2.set 0 _).set 1 _).set 2 _) Tryz.underlying195 rfl (by kernel_rfl)) rfl ?_
  rw [←HT.out];refine⟨?_,k+n,fun _=>rfl,hroom,Ko Xc hpn _ _ _,Kq (((((aB.refl _ w).alloc _).drewN _).then hC).ext hE) (Nat.le_refl _) _ _ _⟩
  rw [if_neg H0.out];rfl
theorem BL (c:UInt8) (l:List UInt8):0≤Lib.indexByte l c↔l.contains c=true:=by
 have key:∀ l:List UInt8,-1≤Lib.indexByte l c∧(0≤Lib.indexByte l c↔l.contains c=true):=by
  intro l;induction l with
  | nil=>simp [Lib.indexByte]
  | cons b r ih=>
   obtain⟨h1,h2⟩:=ih;simp only [Lib.indexByte,List.contains_cons,Bool.or_eq_true,beq_iff_eq];by_cases hb:b=c
   ·subst hb;simp
   ·simp only [hb,Ne.symm hb,if_false,false_or,←h2]
    by_cases hm:Lib.indexByte r c=-1
    ·simp [hm]
    ·simp only [hm,if_false];omega
 exact(key l).2
theorem Fv (c:UInt8) (h:c.toNat<128):Utf8.encode (c.toNat:Int)=⟨#[c]⟩:=by
 have hv:Utf8.valid (c.toNat:Int)=true:=by simp [Utf8.valid];omega
 simp only [Utf8.encode,hv,if_true,Int.toNat_natCast];rw [if_pos h];simp
theorem Ie (c:UInt8):wrap32 (c.toNat:Int)=c.toNat:=by
 have:=c.toNat_lt;unfold wrap32;omega
theorem one_byte (s:ByteArray) (k:Nat) (hk:k<s.size):(⟨#[s[k]]⟩:ByteArray)=s.extract k (k+1):=by
 apply ByteArray.ext
 apply Array.ext'
 rw [kD,drop_cons s k hk];rfl
theorem two_bytes (s:ByteArray) (k:Nat) (h:Lib.hasPrefix (s.data.toList.drop k) [61,61]=true):(⟨#[61,61]⟩:ByteArray)=s.extract k (k+2)∧k+2≤s.size:=by
 have h':[61,61] <+: s.data.toList.drop k:=List.isPrefixOf_iff_prefix.1 h;obtain⟨r,hr⟩:=h';have hl:(s.data.toList.drop k).length=2+r.length:=by rw [←hr];simp;omega
 have e:s.data.size=s.size:=rfl;simp only [List.length_drop,Array.length_toList] at hl;refine⟨?_,by omega⟩
 apply ByteArray.ext
 apply Array.ext'
 rw [kD,←hr];rfl
theorem two_first (l:List UInt8) (h:Lib.hasPrefix l [61,61]=true):∃ r,l=61::r:=by
 obtain⟨r,hr⟩:=List.isPrefixOf_iff_prefix.1 h;exact⟨_,hr.symm⟩
theorem Kt (c:UInt8) (h:rS.contains c=true):c.toNat<128:=by
 have key:∀ c∈rS,c.toNat<128:=by decide
 exact key c (by simpa using h)
set_option maxRecDepth 100000 in
set_option maxHeartbeats 1000000 in
theorem OQ (p:Nat) (s:ByteArray) (k:Nat) (c f:Int) (w:World) (h:rU w p s k c f) (hk:k<s.size) (hs:s.size≤100000) (hl:iU s[k].toNat=false) (hd:jy s[k].toNat=false) :
  Calls Tryz.prog 93 #[.pointer (some ⟨p,0,none⟩)] w (xR p s k c f w (tokF (s.data.toList.drop k))):=by
 generalize hT:tokF (s.data.toList.drop k)=T;rw [drop_cons s k hk] at hT;simp only [tokF,hl,hd,Bool.false_eq_true,if_false] at hT;rw [←drop_cons s k hk] at hT;have hp:=h.lt;have hpn:p≠w.heap.size:=by omega
 have c0:=h.cell 0;have c1:=h.cell 1;have f1:=h.frozen 1;simp only [List.getElem?_toArray,List.getElem?_cons_zero,List.getElem?_cons_succ] at c0 c1;have cc:=uj (s[k].toNat:Int);rw [hl] at cc;have CC:=Z_ cc;have cd:=yY (s[k].toNat:Int);rw [hd] at cd;have CD:=Z_ cd;have ci:=fun w=>(Tryz.strings_IndexByte ⟨#[123,125,40,41,91,93,59,44,46,61,60,43,45,42,47,37,38,124,33]⟩ (s[k].toNat:Int) w)
 have cx:(s[k].toNat:Int).toNat.toUInt8=s[k]:=by simp
 rw [cx] at ci;have hcon:=BL s[k] rS;obtain⟨I,hI⟩:∃ I,Lib.indexByte rS s[k]=I:=⟨_,rfl⟩;have ci:∀ w,Calls Tryz.prog 171 #[.string ⟨#[123,125,40,41,91,93,59,44,46,61,60,43,45,42,47,37,38,124,33]⟩,.int .u8 s[k].toNat] w fun e w'=>e=.returned (.int .i64 I)∧w'=w:=by rw [←hI];exact ci
 have CI:=Z_ ci;rw [hI] at hcon;clear cc cd hl hd ci cx hI;have cp:=fun w=>Tryz.strings_HasPrefix (s.extract k s.size) ⟨#[61,61]⟩ w
 rw [Ib] at cp;obtain⟨B,hB⟩:∃ B,Lib.hasPrefix (s.data.toList.drop k) [61,61]=B:=⟨_,rfl⟩;have cp:∀ w,Calls Tryz.prog 172 #[.string (s.extract k s.size),.string ⟨#[61,61]⟩] w fun e w'=>e=.returned (.bool B)∧w'=w:=by rw [←hB];exact cp
 have CP:=Z_ cp;clear cp;cases hcn:rS.contains s[k]
 ·rw [hcn] at hcon
  have hI0:I<0:=by
   rcases Int.lt_or_le I 0 with h|h
   ·exact h
   ·exact absurd (hcon.1 h) (by simp)
  have hB':B=false:=by
   cases B
   ·rfl
   ·obtain⟨r,hr⟩:=two_first _ hB
    rw [drop_cons s k hk] at hr;injection hr with e1 _
    rw [e1] at hcn;exact absurd hcn (by decide)
  have hsn:nN (s.data.toList.drop k)=0:=by
   unfold nN;rw [hB,hB',drop_cons s k hk];simp only [Bool.false_eq_true,if_false,hcn]
  rw [hsn] at hT;have HT:=Z_ hT;clear hT hsn hB' hB hcn hcon CP;go_enter Tryz.func93,Tryz.ntmps93
  go_wp2_with fail
  go_quiet (fail)
  go_wp2_with (first|(go_at_call 167;refine(CC.out _).mono ?_;rintro e w' ⟨rfl,rfl⟩)|(go_at_call 169;refine(CD.out _).mono ?_;rintro e w' ⟨rfl,rfl⟩)|(go_at_call 171;refine(CI.out _).mono ?_;rintro e w' ⟨rfl,rfl⟩))
  refine bodyPost_ret (dQ rfl _ _ rfl (((((aJ.made w _ _).drewN _).set 0 _).set 1 _).set 2 _) Tryz.underlying195 rfl (by kernel_rfl)) rfl ?_
  rw [←HT.out];exact⟨rfl,k,fun h=>by simp at h,by omega,Ko ((h.alloc _).drewN _) hpn _ _ _,Kq (((aB.refl _ w).alloc _).drewN _) (Nat.le_refl _) _ _ _⟩
 ·rw [hcn] at hcon
  have hkI:(k:Int)≤(s.size:Int):=by omega
  have hI0:0≤I:=hcon.2 rfl;have Yw:=Kt _ hcn;cases B
  ·have hsn:nN (s.data.toList.drop k)=1:=by
    unfold nN;rw [hB,drop_cons s k hk];simp only [Bool.false_eq_true,if_false,hcn,if_true]
   rw [hsn] at hT;have HT:=Z_ hT;have HE:=Z_ (Fv _ Yw);have H1:=Z_ (one_byte s k hk);clear hT hsn hB hcn hcon Yw;go_enter Tryz.func93,Tryz.ntmps93
   go_wp2_with fail
   go_quiet (fail)
   generalize s[k]=cb at *;have he:=HE.out;go_wp2_with (first|(go_at_call 167;refine(CC.out _).mono ?_;rintro e w' ⟨rfl,rfl⟩)|(go_at_call 169;refine(CD.out _).mono ?_;rintro e w' ⟨rfl,rfl⟩)|(go_at_call 171;refine(CI.out _).mono ?_;rintro e w' ⟨rfl,rfl⟩))
   go_quiet ((go_at_call 172;exact uH CP.out _ _ _))
   go_wp2_with fail
   rw [Ie,HE.out,H1.out];refine bodyPost_ret (dQ rfl _ _ rfl ((((((aJ.made w _ _).drewN _).setOther (fun e=>hpn e.symm) _).set 0 _).set 1 _).set 2 _) Tryz.underlying195 rfl (by kernel_rfl)) rfl ?_
   rw [←HT.out];exact⟨rfl,k+1,fun _=>rfl,by omega,Ko (aJ.set ((h.alloc _).drewN _) 1 _) hpn _ _ _,Kq ((((aB.refl (fun i=>i=p) w).alloc _).drewN _).setCell (fun _=>rfl) _) (Nat.le_refl _) _ _ _⟩
  ·have hsn:nN (s.data.toList.drop k)=2:=by
    unfold nN;rw [hB,if_pos rfl]
   obtain⟨h2,hk2⟩:=two_bytes s k hB;have H2:=Z_ h2;rw [hsn] at hT;have HT:=Z_ hT;clear hT hsn hB hcn hcon Yw h2;go_enter Tryz.func93,Tryz.ntmps93
   go_wp2_with fail
   go_quiet (fail)
   generalize s[k]=cb at *;go_wp2_with (first|(go_at_call 167;refine(CC.out _).mono ?_;rintro e w' ⟨rfl,rfl⟩)|(go_at_call 169;refine(CD.out _).mono ?_;rintro e w' ⟨rfl,rfl⟩)|(go_at_call 171;refine(CI.out _).mono ?_;rintro e w' ⟨rfl,rfl⟩))
   go_quiet ((go_at_call 172;exact uH CP.out _ _ _))
   go_wp2_with fail
   rw [H2.out];refine bodyPost_ret (dQ rfl _ _ rfl ((((((aJ.made w _ _).drewN _).setOther (fun e=>hpn e.symm) _).set 0 _).set 1 _).set 2 _) Tryz.underlying195 rfl (by kernel_rfl)) rfl ?_
   rw [←HT.out];exact⟨rfl,k+2,fun _=>rfl,hk2,Ko (aJ.set ((h.alloc _).drewN _) 1 _) hpn _ _ _,Kq ((((aB.refl (fun i=>i=p) w).alloc _).drewN _).setCell (fun _=>rfl) _) (Nat.le_refl _) _ _ _⟩
theorem next_any (p:Nat) (s:ByteArray) (k:Nat) (c f:Int) (w:World) (h:rU w p s k c f) (hk:k<s.size) (hs:s.size≤100000) (hv:ErrVar w) (hvp:p≠6) :
  Calls Tryz.prog 93 #[.pointer (some ⟨p,0,none⟩)] w (xR p s k c f w (tokF (s.data.toList.drop k))):=by
 cases hl:iU s[k].toNat
 ·cases hd:jy s[k].toNat
  ·exact OQ p s k c f w h hk hs hl hd
  ·exact Kr p s k c f w h hk hs hl hd hv hvp
 ·exact Ic p s k c f w h hk hs hl
end lex
end Go.Proofs.YtpcihajmcejliacGreatDoor
namespace Go.Proofs.YtpcihajmcejliacGreatDoor
open Go.RowKit
abbrev Tok:=Int×Nat×Nat
def Tok.cells (s:ByteArray) (t:Tok):List Value:=[.int .i64 t.1,.string (s.extract t.2.1 (t.2.1+t.2.2)),.int .i64 t.2.1]
def kG (s:ByteArray) (l:List Tok):List Value:=l.flatMap (Tok.cells s)
def iw:Nat→List UInt8→Nat→List Tok→List Tok×Int×Nat
 | 0,_,_,_=>([],0,0)
 | f+1,l,p,acc=>
  if p<l.length then
   let T:=tokF (l.drop p)
   if T.2.2=0 then iw f l (p+T.2.1+fD false (l.drop (p+T.2.1))) (acc ++ [(T.1,p,T.2.1)]) else ([],T.2.2,p)
  else (acc,0,0)
def jY (l:List UInt8):List Tok×Int×Nat:=if 3000<l.length then ([],1,0) else iw (l.length+1) l (fD false l) []
theorem Dt (s:ByteArray) (l:List Tok) (t:Tok):kG s (l ++ [t])=kG s l++Tok.cells s t:=by simp [kG]
theorem Fz (l:List UInt8) (h:(tokF l).2.2=0):1≤(tokF l).2.1:=by
 cases l with
 | nil=>simp [tokF] at h
 | cons c r=>
  simp only [tokF] at h ⊢
  have hr:eM c.toNat=true→1≤runN eM (c::r):=by
   intro hb;simp [runN,hb]
  split
  ·rename_i hl;exact hr (by simp [eM,hl])
  ·rename_i hl
   rw [if_neg hl] at h;split
   ·rename_i hd;exact hr (by simp [eM,hd])
   ·rename_i hd
    rw [if_neg hd] at h;by_cases hz:nN (c::r)=0
    ·simp [hz] at h
    ·simp only;omega
namespace lex
set_option maxRecDepth 100000 in
set_option maxHeartbeats 1000000 in
theorem OT (s:ByteArray) (w:World) (h:3000<s.size) (hs:s.size≤9223372036854775807) :
  Calls Tryz.prog 46 #[.string s] w fun e w'=>e=.returned (.tuple #[.slice none 0 0,.agg #[.int .i64 1,.int .i64 0]])∧Ext w w':=by
 go_enter Tryz.func46,Tryz.ntmps46
 go_wp2_with fail
 exact bodyPost_ret (rP rfl _ _ rfl (aJ.made w _ _) Tryz.underlying27 rfl (by kernel_rfl)) rfl ⟨rfl,(aB.refl _ w).alloc _⟩
set_option maxRecDepth 100000 in
set_option maxHeartbeats 2000000 in
theorem RZ (s:ByteArray) (w:World) (h:s.size≤3000) (hv:ErrVar w) (T:List Tok×Int×Nat) (hT:Hid (jY s.data.toList=T)) :
  Calls Tryz.prog 46 #[.string s] w fun e w'=>∃ v,e=.returned (.tuple #[v,.agg #[.int .i64 T.2.1,.int .i64 T.2.2]])∧w'.ownsRow (w.heap.size+2) 195 3 v T.1.length (kG s T.1)∧Ext w w':=by
 have hlen:s.data.toList.length=s.size:=by rw [Array.length_toList];rfl
 go_enter Tryz.func46,Tryz.ntmps46
 go_wp2_with fail
 refine(BH (w.heap.size+1) s 0 0 0 _ (aJ.made2 w _ _ _) (by omega) (by omega)).mono ?_
 rintro e w1 ⟨rfl,hS,hC⟩;have hR:aJ w1 w.heap.size #[.int .i64 0,.int .i64 0] 27:=((aJ.made w _ _).alloc _).aU hC (by omega);have hE:Ext w w1:=(((aB.refl _ w).alloc _).alloc _).trans hC (fun i hi e=>by omega);have hv1:ErrVar w1:=hv.ext hE;have hgv:=hv.lt;have hg0:w.heap.size+2≤w1.heap.size:=by have:=hC.size;simp at this;omega
 rw [Nat.zero_add] at hS;have hk0:fD false s.data.toList≤s.size:=by have:=LP s.data.toList false;omega
 have hT0:iw (s.data.toList.length+1) s.data.toList (fD false s.data.toList) []=T:=by
  have:=hT.out;rwa [jY,if_neg (by omega)] at this
 simp only [List.drop_zero] at hS;generalize fD false s.data.toList=k0 at *;have HT0:=Z_ hT0;clear hT hT0 hC;generalize hP:w.heap.size+1=P at *;generalize hQ:w.heap.size=R at *;have HP:=Z_ hP;have HQ:=Z_ hQ;clear hP hQ;go_wp2_with fail
 have hb0:w1.ownsRow (R+2) 195 3 (.slice none 0 0) 0 []:=World.ownsRow_nil _ _ _ _;go_loopw [5] (fun v wr=>∃ (k f:Nat) (acc:List Tok),k≤s.size∧s.size<f+k∧rU wr P s k 0 0∧aJ wr R #[.int .i64 0,.int .i64 0] 27∧wr.ownsRow (R+2) 195 3 v acc.length (kG s acc)∧acc.length≤k∧Ext w wr∧ErrVar wr∧R+2≤wr.heap.size∧Hid (iw f s.data.toList k acc=T)) (fun _ wr=>s.size-Gq wr P)
 case atStart=>exact⟨k0,s.data.toList.length+1,[],hk0,by omega,hS,hR,hb0,Nat.zero_le _,hE,hv1,hg0,HT0.out⟩
 case round=>
  obtain⟨k,f,acc,hk,hf,hS,hR,hown,hacc,hE,hv1,hg0,hrel⟩:=hrel;have hm:=rU.Gq hS;have HM:=Z_ hm;have hpP:P<wr.heap.size:=hS.lt;have Yx:P≠R:=by have:=HP.out;have:=HQ.out;omega
  clear hm;obtain⟨f,rfl⟩:∃ f',f=f'+1:=⟨f-1,by omega⟩;have c0:=hS.cell 0;have c1:=hS.cell 1;simp only [List.getElem?_toArray,List.getElem?_cons_zero,List.getElem?_cons_succ] at c0 c1;by_cases hlt:k<s.size
  ·have hd:decide ((k:Int)<(s.size:Int))=true:=by simp;omega
   have hr:=hrel.out;rw [iw,if_pos (by omega)] at hr;have hpos:=Fz (s.data.toList.drop k);have HN:=Z_ (fun w' h' hv'=>next_any P s k 0 0 w' h' hlt (by omega) hv' (by have:=HP.out;have:=HQ.out;omega));generalize tokF (s.data.toList.drop k)=N at *;obtain⟨kd,n,e⟩:=N;by_cases he:e=0
   ·subst he
    simp only [if_true] at hr hpos;have hn:1≤n:=hpos trivial;have HR:=Z_ hr;clear hr hpos;go_wp2_with fail
    refine(HN.out _ hS hv1).mono ?_
    rintro e w' ⟨rfl,k',hk',hk2,hS',hC'⟩;(try simp only [if_true,Ad])
    have hown':=kZ hown hC' (fun i hi e=>by subst e;have:=HP.out;omega);go_upto_region 14 with (fail)
    iterate 10 (go_step)
    refine xP rfl (.tmp 54) (.tmp 56) 101 rfl (R+2) 195 (.agg #[.int .i64 0,.string ⟨#[]⟩,.int .i64 0]) 3 32 Tryz.underlying101 (by kernel_rfl) rfl (by omega) _ acc.length (kG s acc) rfl (zG hown' (((aB.refl _ _).alloc _).alloc _)) _ 1 1 195 [.int .i64 kd,.string (s.extract k (k+n)),.int .i64 k] rfl (aJ.made2 _ _ _ _) rfl ?c1 ?c2 ?c3 ?c4 ?_
    case c1=>intro u hu;simp at hu;rcases hu with rfl|rfl|rfl<;>rfl
    case c2=>unfold maxLen;omega
    case c3=>omega
    case c4=>have:=hC'.size;simp;omega
    intro v' w2 hown2 hC2 _;have Lj:P<R+2:=by have:=HP.out;omega
    have Xc:rU w2 P s k' 0 0:=((hS'.alloc _).alloc _).aU hC2 (by omega);have uG:aB (fun i=>i=P∨R+2≤i) wr w2:=(((hC'.weak (fun _ _ h=>.inl h)).alloc _).alloc _).trans hC2 (fun _ _ h=>.inr h);have hR2:aJ w2 R #[.int .i64 0,.int .i64 0] 27:=hR.aU uG (by omega);have hE2:Ext w w2:=hE.trans uG (fun i hi h=>by have:=HQ.out;have:=HP.out;omega);have hv2:ErrVar w2:=hv1.aU uG (by have:=HP.out;omega);have hg2:R+2≤w2.heap.size:=Nat.le_trans hg0 uG.size;obtain rfl:k'=k+n:=hk' rfl;clear hS' hC' hown' hC2 uG hk';go_wp2_with fail
    refine(BH P s (k+n) 0 0 _ Xc hk2 (by omega)).mono ?_
    rintro e w3 ⟨rfl,hS3,uG⟩;go_wp2_with fail
    go_roundw
    case rel=>
     have hle:=LP (s.data.toList.drop (k+n)) false;simp only [List.length_drop] at hle;refine⟨_,f,acc ++ [(kd,k,n)],by omega,by omega,hS3,hR2.aU uG (by omega),?_,by simp;omega,hE2.trans uG (fun i hi h=>by have:=HQ.out;have:=HP.out;omega),hv2.aU uG (by have:=HP.out;omega),Nat.le_trans hg2 uG.size,HR.out⟩
     have:=kZ hown2 uG (fun i hi e=>by omega);rw [Dt,List.length_append];exact this
    case measure=>
     rw [HM.out,rU.Gq hS3];omega
   ·have hr2:([],e,k)=T:=by rw [←hr];simp only [if_neg he]
    have HR:=Z_ hr2;have hne:(e != 0)=true:=by rw [bne_iff_ne];exact he
    have HE:=Z_ he;clear hr hpos hr2 he;go_wp2_with fail
    refine(HN.out _ hS hv1).mono ?_
    rintro e w' ⟨rfl,k',hk',hk2,hS',hC'⟩;(try simp only [if_neg HE.out,Ad])
    have hS3:=(hS'.alloc (.cells #[.int .i64 0,.string ⟨#[]⟩,.int .i64 0] 195));have hf2:=hS3.frozen 2;have hf3:=hS3.frozen 3;have hc2:=hS3.cell 2;have hc3:=hS3.cell 3;go_wp2_with fail
    have hS4:aJ (((w'.alloc (.cells #[.int .i64 0,.string ⟨#[]⟩,.int .i64 0] 195)).setCell ⟨P,2,none⟩ (.int .i64 e)).setCell ⟨P,3,none⟩ (.int .i64 k)) P #[.string s,.int .i64 k',.int .i64 e,.int .i64 k] 193:=(hS3.set 2 _).set 3 _;have Ui:aB (fun i=>i=P) wr (((w'.alloc (.cells #[.int .i64 0,.string ⟨#[]⟩,.int .i64 0] 195)).setCell ⟨P,2,none⟩ (.int .i64 e)).setCell ⟨P,3,none⟩ (.int .i64 k)):=((hC'.alloc _).setCell (fun _=>rfl) _).setCell (fun _=>rfl) _;clear hc2 hc3 hf2 hf3 hS3;generalize ((w'.alloc (.cells #[.int .i64 0,.string ⟨#[]⟩,.int .i64 0] 195)).setCell ⟨P,2,none⟩ (.int .i64 e)).setCell ⟨P,3,none⟩ (.int .i64 k)=w4 at *;have Uj:aJ w4 R #[.int .i64 0,.int .i64 0] 27:=hR.aU Ui (by omega);have hc2:w4.cell? ⟨P,2,none⟩=some (.int .i64 e):=hS4.cell 2;have hc3:w4.cell? ⟨P,3,none⟩=some (.int .i64 k):=hS4.cell 3
    have hr0:w4.cell? ⟨R,0,none⟩=some (.int .i64 0):=Uj.cell 0;have hr1:w4.cell? ⟨R,1,none⟩=some (.int .i64 0):=Uj.cell 1;have hrf:=Uj.frozen;go_still_tail 5,(by kernel_rfl)
    go_wp2_with fail
    refine bodyPost_ret (rP rfl _ _ rfl ((Uj.drew.set 0 _).set 1 _) Tryz.underlying27 rfl (by kernel_rfl)) rfl ?_
    rw [←HR.out];exact⟨_,rfl,World.ownsRow_nil _ _ _ _,((hE.trans Ui (fun i hi h=>by have:=HQ.out;have:=HP.out;omega)).drew.bM (Nat.le_of_eq HQ.out) _).bM (Nat.le_of_eq HQ.out) _⟩
  ·have hd:decide ((k:Int)<(s.size:Int))=false:=by simp;omega
   have hr:=hrel.out;rw [iw,if_neg (by omega)] at hr;have HR:=Z_ hr;clear hr;have hc2:wr.cell? ⟨P,2,none⟩=some (.int .i64 0):=hS.cell 2;have hc3:wr.cell? ⟨P,3,none⟩=some (.int .i64 0):=hS.cell 3;have hr0:wr.cell? ⟨R,0,none⟩=some (.int .i64 0):=hR.cell 0;have hr1:wr.cell? ⟨R,1,none⟩=some (.int .i64 0):=hR.cell 1;have hrf:=hR.frozen;go_wp2_with fail
   go_still_tail 6,(by kernel_rfl)
   go_wp2_with fail
   refine bodyPost_ret (rP rfl _ _ rfl ((hR.drew.set 0 _).set 1 _) Tryz.underlying27 rfl (by kernel_rfl)) rfl ?_
   rw [←HR.out];refine⟨_,rfl,?_,(hE.drew.bM (Nat.le_of_eq HQ.out) _).bM (Nat.le_of_eq HQ.out) _⟩
   rw [HQ.out];exact kZ hown (((aB.refl (fun i=>i=R) _).drew.setCell (fun _=>rfl) _).setCell (fun _=>rfl) _) (fun i hi e=>by omega)
end lex
end Go.Proofs.YtpcihajmcejliacGreatDoor
namespace Go.Proofs.YtpcihajmcejliacGreatDoor
open Go.RowKit
namespace lexTells
theorem H8 (s:ByteArray) (w:World) (hs:s.size≤9223372036854775807) (hv:ErrVar w) (T:List Tok×Int×Nat) (hT:Hid (jY s.data.toList=T)) :
  Calls Tryz.prog 46 #[.string s] w fun e w'=>∃ v,e=.returned (.tuple #[v,.agg #[.int .i64 T.2.1,.int .i64 T.2.2]])∧w'.ownsRow (w.heap.size+2) 195 3 v T.1.length (kG s T.1)∧Ext w w':=by
 by_cases h:s.size≤3000
 ·exact lex.RZ s w h hv T hT
 ·have hlen:s.data.toList.length=s.size:=by rw [Array.length_toList];rfl
  have:=hT.out;rw [jY,if_pos (by omega)] at this;subst this;refine(lex.OT s w (by omega) hs).mono ?_
  rintro e w' ⟨rfl,hE⟩;exact⟨_,rfl,World.ownsRow_nil _ _ _ _,hE⟩
theorem Ig (f:Nat) (l:List UInt8):∀ p acc,(iw f l p acc).1.length≤acc.length+f:=by
 induction f with
 | zero=>intro p acc;simp [iw]
 | succ f ih=>
  intro p acc;rw [iw];split
  ·simp only
   split
   ·have:=ih (p+(tokF (l.drop p)).2.1+fD false (l.drop (p+(tokF (l.drop p)).2.1))) (acc ++ [((tokF (l.drop p)).1,p,(tokF (l.drop p)).2.1)])
    simp at this
    omega
   ·simp
  ·simp
end lexTells
end Go.Proofs.YtpcihajmcejliacGreatDoor
namespace Go.Proofs.YtpcihajmcejliacGreatDoor
open Go.RowKit
namespace af2
theorem R_ (l:List UInt8):nN l≤l.length:=by
 unfold nN;split
 ·rename_i h
  have:=(List.isPrefixOf_iff_prefix.1 h).length_le;simpa using this
 ·split
  ·simp
  ·split<;>simp
end af2
end Go.Proofs.YtpcihajmcejliacGreatDoor
namespace Go.Proofs.YtpcihajmcejliacGreatDoor
open Go.RowKit
namespace again
def text (l:List UInt8) (t:Tok):List UInt8:=(l.drop t.2.1).take t.2.2
def Good (l:List UInt8) (t:Tok):Prop:=tokF (l.drop t.2.1)=(t.1,t.2.2,0)∧t.2.1+t.2.2≤l.length∧t.2.1<l.length
theorem Ih (p:Int→Bool) (m:List UInt8):m.take (runN p m)=m.takeWhile fun c=>p c.toNat:=by
 unfold runN;induction m with
 | nil=>rfl
 | cons c r ih=>
  simp only [List.takeWhile_cons];split
  ·simp [ih]
  ·rfl
theorem Vd (p:Int→Bool) (h32:p 32=false) (x r:List UInt8) (h:∀ c∈x,p c.toNat=true):runN p (x++32::r)=x.length:=by
 unfold runN;induction x with
 | nil=>
  simp [h32]
 | cons c q ih=>
  have hc:=h c (by simp);simp [hc,ih (fun d hd=>h d (by simp [hd]))]
theorem Yy:eM 32=false:=by decide
theorem D6 (c:UInt8) (h:rS.contains c=true):¬ (c=32∨c=10)∧c≠35∧iU c.toNat=false∧jy c.toNat=false:=by
 have key:∀ c∈rS,¬ (c=32∨c=10)∧c≠35∧iU c.toNat=false∧jy c.toNat=false:=by decide
 exact key c (by simpa using h)
theorem sQ (c:UInt8) (h:iU c.toNat=true∨jy c.toNat=true):¬ (c=32∨c=10)∧c≠35:=by
 refine⟨?_,?_⟩
 ·rintro (rfl|rfl)<;>exact absurd h (by decide)
 ·rintro rfl;exact absurd h (by decide)
theorem Si (p:UInt8→Bool) (l:List UInt8):∀ d∈l.takeWhile p,p d=true:=by
 induction l with
 | nil=>intro d hd;simp at hd
 | cons c r ih=>
  intro d hd;rw [List.takeWhile_cons] at hd;split at hd
  ·rename_i hc
   rcases List.mem_cons.1 hd with rfl|hd
   ·exact hc
   ·exact ih d hd
  ·simp at hd
theorem Ku (l:List UInt8) (t:Tok) (h:Good l t) (r:List UInt8):tokF (text l t++32::r)=(t.1,t.2.2,0)∧fD false (text l t++32::r)=0∧(text l t).length=t.2.2∧1≤t.2.2:=by
 obtain⟨kd,p,n⟩:=t;obtain⟨h1,h2,h3⟩:=h;simp only at h1 h2 h3;have hpos:=Fz (l.drop p) (by rw [h1]);rw [h1] at hpos;simp only at hpos;have hlen:(text l (kd,p,n)).length=n:=by simp only [text,List.length_take,List.length_drop];omega
 suffices hs:tokF (text l (kd,p,n)++32::r)=(kd,n,0)∧fD false (text l (kd,p,n)++32::r)=0 from⟨hs.1,hs.2,hlen,hpos⟩
 simp only [text] at hlen ⊢;cases hm:l.drop p with
 | nil=>rw [hm] at h1;simp [tokF] at h1
 | cons c q=>
  rw [hm] at h1 hlen;obtain⟨n,rfl⟩:∃ m,n=m+1:=⟨n-1,by omega⟩;have hshape:(c::q).take (n+1)++32::r=c::(q.take n++32::r):=rfl
  have hrun:runN eM (c::q)=n+1→runN eM ((c::q).take (n+1)++32::r)=n+1:=by
   intro hn;have ht:=Ih eM (c::q);rw [hn] at ht
   have:=Vd eM Yy ((c::q).take (n+1)) r (by
    intro d hd;rw [ht] at hd;exact Si _ _ d hd)
   rw [this,hlen]
  have htake:((c::q).take (n+1)++32::r).take (n+1)=(c::q).take (n+1):=by
   rw [List.take_append_of_le_length (by omega),List.take_of_length_le (by omega)]
  rw [hshape] at hrun htake ⊢;by_cases hl:iU c.toNat=true
  ·simp only [tokF,hl,if_true,Prod.mk.injEq] at h1
   obtain⟨rfl,hn,he⟩:=h1;refine⟨?_,sK c _ (sQ c (.inl hl)).1 (sQ c (.inl hl)).2⟩
   simp only [tokF,hl,if_true,hrun hn];rw [hn] at he;rw [he]
  ·by_cases hd:jy c.toNat=true
   ·simp only [tokF,hl,hd,if_true,Bool.false_eq_true,if_false,Prod.mk.injEq] at h1
    obtain⟨rfl,hn,he⟩:=h1;refine⟨?_,sK c _ (sQ c (.inr hd)).1 (sQ c (.inr hd)).2⟩
    simp only [tokF,hl,hd,if_true,Bool.false_eq_true,if_false,hrun hn,htake];rw [hn] at he;rw [he]
   ·simp only [tokF,hl,hd,Bool.false_eq_true,if_false,Prod.mk.injEq] at h1
    obtain⟨rfl,hn,he⟩:=h1
    have hc:rS.contains c=true:=by
     cases hcn:rS.contains c
     ·by_cases hp:Lib.hasPrefix (c::q) [61,61]=true
      ·obtain⟨r',hr'⟩:=lex.two_first _ hp
       injection hr' with e1 _
       rw [e1] at hcn;exact absurd hcn (by decide)
      ·exfalso
       unfold nN at hn;rw [if_neg hp] at hn;simp only [hcn,Bool.false_eq_true,if_false] at hn;omega
     ·rfl
    refine⟨?_,sK c _ (D6 c hc).1 (D6 c hc).2.1⟩
    have hs:nN (c::(q.take n++32::r))=n+1:=by
     by_cases hp:Lib.hasPrefix (c::q) [61,61]=true
     ·have h2:n+1=2:=by rw [←hn];unfold nN;rw [if_pos hp]
      obtain rfl:n=1:=by omega
      have h3:=List.isPrefixOf_iff_prefix.1 hp;cases q with
      | nil=>simp at h3
      | cons d q'=>
       simp only [List.cons_prefix_cons,List.nil_prefix,and_true] at h3;obtain⟨rfl,rfl⟩:=h3;unfold nN;rw [if_pos (by rfl)]
     ·have h2:n+1=1:=by
       rw [←hn];unfold nN;rw [if_neg hp];simp only [hc,if_true]
      obtain rfl:n=0:=by omega
      unfold nN;rw [if_neg (by simp [Lib.hasPrefix])];simp only [hc,if_true]
    simp only [tokF,hl,hd,Bool.false_eq_true,if_false,hs];rw [if_neg (by omega)]
theorem Ve (l:List UInt8):(tokF l).2.1≤l.length:=by
 cases l with
 | nil=>simp [tokF]
 | cons c r=>
  simp only [tokF];split
  ·exact Ff _ _
  ·split
   ·exact Ff _ _
   ·exact af2.R_ _
theorem D7 (l:List UInt8):∀ (f p:Nat) (acc:List Tok),(∀ t∈acc,Good l t)→(∀ t∈(iw f l p acc).1,Good l t)∧((iw f l p acc).1.map (·.2.2)).sum≤(acc.map (·.2.2)).sum+(l.length-p):=by
 intro f;induction f with
 | zero=>intro p acc h;simp [iw]
 | succ f ih=>
  intro p acc h;rw [iw];split
  ·rename_i hp
   simp only
   split
   ·rename_i he
    have hle:=Ve (l.drop p);rw [List.length_drop] at hle
    have hg:Good l ((tokF (l.drop p)).1,p,(tokF (l.drop p)).2.1):=by
     refine⟨?_,by simp only;omega,hp⟩
     simp only
     rw [←he]
    obtain⟨i1,i2⟩:=ih (p+(tokF (l.drop p)).2.1+fD false (l.drop (p+(tokF (l.drop p)).2.1))) (acc ++ [((tokF (l.drop p)).1,p,(tokF (l.drop p)).2.1)]) (by
     intro t ht;rcases List.mem_append.1 ht with ht|ht
     ·exact h t ht
     ·simp at ht;subst ht;exact hg)
    refine⟨i1,Nat.le_trans i2 ?_⟩
    simp only [List.map_append,List.map_cons,List.map_nil,List.sum_append,List.sum_cons,List.sum_nil];omega
   ·exact⟨by simp,by simp⟩
  ·exact⟨h,by simp only;omega⟩
end again
end Go.Proofs.YtpcihajmcejliacGreatDoor
namespace Go.Proofs.YtpcihajmcejliacGreatDoor
open Go.RowKit
def lH:List (List UInt8):=[[100,111],[101,108,115,101],[103,105,118,101,115],[104,105,103,104],[105,102],[105,109,112,111,114,116],[105,110],[108,111,119],[109,111,100,117,108,101],[111,117,116],[112,114,111,99],[112,117,98],[114,101,116,117,114,110],[119,104,105,108,101]]
def headB:List UInt8→Bool
 | []=>false
 | c::_=>iU c.toNat
def kT (l:List UInt8):Bool:=headB l&&decide (l.length≤16)&&l.all fun c=>eM c.toNat
def nameB (l:List UInt8):Bool:=kT l && !lH.contains l
namespace name
theorem xU (p:Int→Bool) (l:List UInt8):runN p l=l.length↔l.all (fun c=>p c.toNat)=true:=by
 unfold runN;induction l with
 | nil=>simp
 | cons c r ih=>
  rw [List.takeWhile_cons];by_cases h:p c.toNat=true
  ·simp only [h,if_true,List.length_cons,List.all_cons,Bool.true_and,←ih];omega
  ·simp [h]
theorem OO (l:List UInt8) (h:kT l=true):jY l=([(1,0,l.length)],0,0):=by
 simp only [kT,Bool.and_eq_true,decide_eq_true_eq] at h;obtain⟨⟨h1,h2⟩,h3⟩:=h;cases l with
 | nil=>simp [headB] at h1
 | cons c r=>
  simp only [headB] at h1;have hs:fD false (c::r)=0:=sK c r (again.sQ c (.inl h1)).1 (again.sQ c (.inl h1)).2;have hr:runN eM (c::r)=(c::r).length:=(xU _ _).2 h3
  have ht:tokF (c::r)=(1,(c::r).length,0):=by
   simp only [tokF,h1,if_true,hr];rw [if_neg (by omega)]
  rw [jY,if_neg (by omega),hs,iw,if_pos (by simp),List.drop_zero,ht];simp only [if_true,Nat.zero_add,List.drop_length,fD,Nat.add_zero,List.nil_append];show iw (r.length+1) _ _ _=_
  rw [iw,if_neg (by simp)]
theorem Fp (l:List UInt8) (p n:Nat) (a:Nat) (h:jY l=([(1,p,n)],0,a)) (ht:(l.drop p).take n=l):kT l=true:=by
 have hl:l.length≤3000:=by
  rcases Nat.lt_or_ge 3000 l.length with h'|h'
  ·rw [jY,if_pos h'] at h;simp at h
  ·exact h'
 rw [jY,if_neg (by omega)] at h;have hg:=(again.D7 l (l.length+1) (fD false l) [] (by simp)).1;rw [h] at hg;obtain⟨g1,g2,g3⟩:=hg (1,p,n) (by simp);simp only at g1 g2 g3;have hlen:=congrArg List.length ht;rw [List.length_take,List.length_drop] at hlen;obtain rfl:p=0:=by omega
 obtain rfl:n=l.length:=by omega
 rw [List.drop_zero] at g1;cases l with
 | nil=>simp at g3
 | cons c r=>
  simp only [tokF] at g1;by_cases hc:iU c.toNat=true
  ·simp only [hc,if_true,Prod.mk.injEq,true_and] at g1
   obtain⟨k1,k2⟩:=g1
   have h16:(c::r).length≤16:=by
    rcases Nat.lt_or_ge 16 (runN eM (c::r)) with h'|h'
    ·rw [if_pos h'] at k2;simp at k2
    ·omega
   simp only [kT,headB,hc,Bool.true_and,Bool.and_eq_true,decide_eq_true_eq];exact⟨h16,(xU _ _).1 k1⟩
  ·have hc':iU c.toNat=false:=by simpa using hc
   simp only [hc',Bool.false_eq_true,if_false] at g1;split at g1<;>simp at g1
def row:List (List UInt8)→List UInt8
 | []=>[32]
 | x::r=>32::(x++row r)
theorem Sj (ws:List (List UInt8)):∃ r,row ws=32::r:=by cases ws<;>exact⟨_,rfl⟩
theorem Ii (x y a b:List UInt8) (hx:∀ c∈x,c≠32) (hy:∀ c∈y,c≠32) (h:x++32::a=y++32::b):x=y:=by
 induction x generalizing y with
 | nil=>
  cases y with
  | nil=>rfl
  | cons d q=>simp at h;exact absurd h.1.symm (hy d (by simp))
 | cons c r ih=>
  cases y with
  | nil=>simp at h;exact absurd h.1 (hx c (by simp))
  | cons d q=>
   simp at h
   rw [h.1,ih q (fun c hc=>hx c (by simp [hc])) (fun c hc=>hy c (by simp [hc])) h.2]
theorem OU (s:List UInt8) (hs:∀ c∈s,c≠32):∀ ws:List (List UInt8),(∀ x∈ws,∀ c∈x,c≠32)→((32::(s ++ [32])) <:+: row ws↔s∈ws):=by
 intro ws;induction ws with
 | nil=>
  intro _;simp only [row,List.not_mem_nil,iff_false];intro h;have:=h.length_le;simp at this
 | cons x r ih=>
  intro hw;have hx:=hw x (by simp);have ihr:=ih (fun y hy=>hw y (by simp [hy]));obtain⟨q,hq⟩:=Sj r;constructor
  ·rintro ⟨a,b,hab⟩
   simp only [row] at hab;cases a with
   | nil=>
    have e:s++32::b=x++32::q:=by
     rw [←hq];simpa using hab
    simp [Ii s x b q hs hx e]
   | cons c a'=>
    refine List.mem_cons_of_mem _ (ihr.1 ?_)
    have e:a'++(32::(s ++ [32]))++b=x++row r:=by
     have:=hab;simp only [List.cons_append,List.cons.injEq] at this;exact this.2
    clear hab ih ihr;induction x generalizing a' with
    | nil=>exact⟨a',b,by simpa using e⟩
    | cons d x' ihx=>
     cases a' with
     | nil=>
      simp only [List.nil_append,List.cons_append,List.cons.injEq] at e;exact absurd e.1.symm (hx d (by simp))
     | cons c' a''=>
      simp only [List.cons_append,List.cons.injEq] at e
      exact ihx (fun y hy=>by
       rcases List.mem_cons.1 hy with rfl|hy
       ·exact fun c hc=>hx c (by simp [hc])
       ·exact hw y (by simp [hy])) (fun c hc=>hx c (by simp [hc])) a'' e.2
  ·intro h
   rcases List.mem_cons.1 h with rfl|h
   ·exact⟨[],q,by simp [row,hq]⟩
   ·obtain⟨a,b,hab⟩:=ihr.2 h
    exact⟨32::(x++a),b,by simp [row,←hab]⟩
theorem contains_iff (s sub:List UInt8):Lib.contains s sub=true↔sub <:+: s:=by
 simp only [Lib.contains,decide_eq_true_eq];rcases Lib.index_spec s sub with ⟨h1,h2⟩|⟨i,h1,h2,h3,_⟩
 ·rw [h1]
  constructor
  ·intro h;omega
  ·rintro ⟨a,b,rfl⟩
   have:=h2 a.length (by simp)
   have h3:Lib.occAt (a++sub++b) sub a.length=true:=by
    rw [Lib.occAt,List.append_assoc,List.drop_left];exact List.isPrefixOf_iff_prefix.2 ⟨b,rfl⟩
   rw [h3] at this;cases this
 ·rw [h1]
  constructor
  ·intro _
   obtain⟨b,hb⟩:=List.isPrefixOf_iff_prefix.1 h3;exact⟨s.take i,b,by rw [List.append_assoc,hb,List.take_append_drop]⟩
  ·intro _;omega
theorem OV:row lH=[32,100,111,32,101,108,115,101,32,103,105,118,101,115,32,104,105,103,104,32,105,102,32,105,109,112,111,114,116,32,105,110,32,108,111,119,32,109,111,100,117,108,101,32,111,117,116,32,112,114,111,99,32,112,117,98,32,114,101,116,117,114,110,32,119,104,105,108,101,32]:=by decide
theorem vw (l:List UInt8) (h:kT l=true):Lib.contains [32,100,111,32,101,108,115,101,32,103,105,118,101,115,32,104,105,103,104,32,105,102,32,105,109,112,111,114,116,32,105,110,32,108,111,119,32,109,111,100,117,108,101,32,111,117,116,32,112,114,111,99,32,112,117,98,32,114,101,116,117,114,110,32,119,104,105,108,101,32] (32::(l ++ [32]))=lH.contains l:=by
 rw [Bool.eq_iff_iff,contains_iff,←OV,OU l,List.contains_iff_mem]
 ·intro c hc e
  subst e;simp only [kT,Bool.and_eq_true,List.all_eq_true] at h;exact absurd (h.2 _ hc) (by decide)
 ·have key:∀ x∈lH,∀ c∈x,c≠32:=by decide
  exact key
end name
end Go.Proofs.YtpcihajmcejliacGreatDoor
