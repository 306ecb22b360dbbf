/- The walk of the checker's variable: what a name is. The walk of the checker's call: a call whose kids are done. -/
import Derived.IntWalk
import Derived.Test.YtpcihajmcejliacGreatDoorChkFo
import Derived.Test.YtpcihajmcejliacGreatDoorSynMo
namespace Go.Proofs.YtpcihajmcejliacGreatDoor
open Go.RowKit
namespace chk
open bu cG
def Vp (r:nD):Value:=.agg #[.int .i64 r.loc,.string r.modn,.string r.name,.int .i64 r.label,.int .i64 r.size]
def Nu (u:World) (T:Rz nD) (e:Ending) (u':World):Prop:=Ext u u'∧match T with
 | .bad c p=>e=.panicked (nG c (p:Nat))
 | .ok r=>e=.returned (Vp r)∧vX r
theorem yC (t:ByteArray) (ht:t.size≤10000) {E:dI} {f:aQ} {s:ByteArray} {b:Bool} (h:kQ E t=(f,s,b)):s.size≤maxLen:=by
 unfold kQ at h;split at h
 ·injection h with _ h
  injection h with h _
  subst h;unfold maxLen;omega
 ·injection h with _ h
  injection h with h _
  subst h
  have h1:(Lib.cut t.data.toList [46]).2.1.length≤t.data.toList.length:=by
   unfold Lib.cut;split<;>simp<;>omega
  have h2:t.data.toList.length=t.size:=by rw [Array.length_toList];rfl
  have h3:(Gs t).2.1.size=(Lib.cut t.data.toList [46]).2.1.length:=by show (Lib.cut t.data.toList [46]).2.1.toArray.size=_;simp
  rw [h3];unfold maxLen;omega
theorem Jg {L:List Loc} {t:ByteArray} {k:Nat} (h:k<L.length):uX L t (k+1)=if L[k].name=t then some (k,L[k]) else uX L t k:=by
 rw [uX,List.getElem?_eq_getElem h]
theorem Jh {l:List eY} {s:ByteArray} {k:Nat} (h:k<l.length) (hk:yD (l.take k) s=none):(l[k].name=s→yD l s=some l[k])∧(l[k].name≠s→yD (l.take (k+1)) s=none):=by
 unfold yD at *;constructor
 ·intro e
  have h2:l=l.take k++l[k]::l.drop (k+1):=by rw [←List.drop_eq_getElem_cons h,List.take_append_drop]
  have h3:List.find? (fun v=>decide (v.name=s)) l=List.find? (fun v=>decide (v.name=s)) (l.take k++l[k]::l.drop (k+1)):=congrArg _ h2;rw [h3,List.find?_append,hk,List.find?_cons_of_pos (by simpa using e)];rfl
 ·intro e
  rw [List.take_succ_eq_append_getElem h,List.find?_append,hk];simp [e]
set_option maxRecDepth 100000 in
set_option maxHeartbeats 8000000 in
theorem zq {W u:World} {C Mo D K P B:Nat} {E:dI} {vl:Value} {L:List Loc} {deep at_:Int} {cO dw:Value} {dc pc:Array Value} (h:CS W u C Mo D K P B E vl L deep at_ cO dw dc pc) (hmv:cE W) (t:ByteArray) (ht:t.size≤10000) (hL:L.length≤1000) (p:Nat) :
  Calls Tryz.prog 337 #[.pointer (some ⟨C,0,none⟩),.string t,.int .i64 (p:Nat)] u (Nu u (vY E L t p)):=by
 obtain⟨T,hT⟩:∃ T,vY E L t p=T:=⟨_,rfl⟩;rw [hT];have HT:=Z_ hT;clear hT;have HR:=Z_ (aC.made u #[.int .i64 0,.string ⟨#[]⟩,.string ⟨#[]⟩,.int .i64 0,.int .i64 0] 343);have hE0:=(aB.refl (fun _=>False) u).alloc (.cells #[.int .i64 0,.string ⟨#[]⟩,.string ⟨#[]⟩,.int .i64 0,.int .i64 0] 343);have HC:=Z_ (h.extend hE0);have HE:=Z_ hE0;obtain⟨R,hR⟩:∃ R,u.heap.size=R:=⟨_,rfl⟩;rw [hR] at HR;have Vq:=Z_ hR;have uD:=Z_ hmv;obtain⟨a,c,hvl,hl1,hl2,hall⟩:=HC.out.loc.row gz AY;subst hvl;have Ji:=Z_ hall;obtain⟨n,hn⟩:∃ n,L.length=n:=⟨_,rfl⟩;rw [hn] at hl1 hL HC;have HN:=Z_ hn;clear hE0 h hall hmv;go_enter Tryz.func337,Tryz.ntmps337
 go_upto_region 1 with (fail)
 try rw [hR]
 generalize u.alloc (.cells #[.int .i64 0,.string ⟨#[]⟩,.string ⟨#[]⟩,.int .i64 0,.int .i64 0] 343)=u1 at *;have hcc:=HC.out.c.cell;unfold qK at hcc
 try rw [hn] at hcc
 try rw [hn]
 clear hR hn;have hw1:IntKind.i64.wrap ((n:Int)-1)=(n:Int)-1:=IntWalk.i64_in _ (by omega);go_wp2_with fail
 go_loopw [7] (fun i wr=>∃ k:Nat,k≤n∧i=.int .i64 ((k:Int)-1)∧Hid (uX L t k=uX L t L.length)∧Hid (Ext u1 wr)) (fun i _=>(intOf i+1).toNat)
 case atStart=>exact⟨n,Nat.le_refl _,rfl,Z_ (by rw [HN.out]),Z_ (aB.refl _ _)⟩
 case round=>
  obtain⟨k,hk,rfl,HF,HX⟩:=hrel;clear hcc;have Zl:=Z_ (HC.out.extend HX.out);have HRr:=Z_ (HR.out.ext HX.out);have hcc:=Zl.out.c.cell;unfold qK at hcc;cases k with
  | zero=>
   have hd:decide ((0:Int)≤((0:Nat):Int)-1)=false:=by decide
   have kY:uX L t L.length=none:=HF.out.symm;have o_:=Z_ kY;clear kY HF;go_wp2_with fail
   refine(AZ Zl.out uD.out t ht).mono ?_
   rintro e w2 ⟨fv,rfl,hfa,hE2⟩;obtain⟨Q,hQ⟩:∃ Q,kQ E t=Q:=⟨_,rfl⟩;rw [hQ] at hfa ⊢;have HQ:=Z_ hQ;clear hQ hcc;obtain⟨f,s,Jj⟩:=Q;replace hfa:fE W f fv:=hfa;obtain⟨a9,m9,c9,d9,rfl,hva,-,hms,Fq,Zm,-⟩:=hfa;have rU:=hE2.alloc (.cells #[.string f.modn,.slice a9 f.vars.length m9,.slice c9 f.procs.length d9] 37);have Nv:=Z_ (aC.made w2 #[.string f.modn,.slice a9 f.vars.length m9,.slice c9 f.procs.length d9] 37);have HV:=Z_ (fun (w:World) (hE:Ext W w)=>(hva.mono hE.size fun _ _ _ hb h=>gy.ext hE hb h:bC 4 gy w a9 f.vars));have HR3:=Z_ (HRr.out.ext rU);have qW:=Z_ (HX.out.ext rU);have HW3:=Z_ (Zl.out.ext.ext rU);have vZ:=Z_ hms;have hsm:=HQ.out;obtain⟨F9,rQ⟩:∃ F9,w2.heap.size=F9:=⟨_,rfl⟩;rw [rQ] at Nv;clear hE2 rU hva Zl HRr HX Ji hms
   go_upto_region 8 with (fail)
   try rw [rQ]
   generalize w2.alloc (.cells #[.string f.modn,.slice a9 f.vars.length m9,.slice c9 f.procs.length d9] 37)=u3 at *;clear rQ;have hfc:=Nv.out.cell;obtain⟨nv,Jk⟩:∃ nv,f.vars.length=nv:=⟨_,rfl⟩;rw [Jk] at hfc Fq;have Zn:=Z_ Jk;have Nw:=Z_ (show f.modn=f.modn from rfl);obtain⟨fm,hfm⟩:∃ fm,f.modn=fm:=⟨_,rfl⟩;rw [hfm] at hfc;have QJ:=Z_ hfm;have ai2:nv≤9223372036854775807:=by unfold maxLen at Zm;omega
   clear Jk hfm hsm;obtain⟨uo,huo⟩:∃ uo,uo=u3:=⟨_,rfl⟩;go_wp2_with fail
   clear hfc;go_loopw [49] (fun i wr=>∃ k:Nat,k≤nv∧i=.int .i64 (k:Nat)∧Hid (Jj=true→yD (f.vars.take k) s=none)∧Hid (Ext u3 wr)) (fun i _=>nv-(intOf i).toNat)
   case atStart=>exact⟨0,Nat.zero_le _,rfl,Z_ fun _=>rfl,Z_ (aB.refl _ _)⟩
   case round=>
    obtain⟨k,hk,rfl,Ut,rS⟩:=hrel;have PK:=Z_ (HR3.out.ext rS.out);have Vr:=Z_ (Nv.out.ext rS.out);by_cases hlt:k<nv
    ·have hki:(k:Int)<(nv:Int):=by omega
     have hkd:decide ((k:Int)<(nv:Int))=true:=by simpa using hki
     have hkl:k<f.vars.length:=by rw [Zn.out];exact hlt
     obtain⟨b,o,rfl,hb,hin⟩:=HV.out _ (HW3.out.ext rS.out) k hkl;obtain⟨l0,l1,l2,l3,lz⟩:=hin;have HST:=Z_ (fun hi=>Jh hkl (Ut.out hi));generalize f.vars[k]=y at *;obtain⟨vn,vp,PM,vz⟩:=y;simp only at l0 l1 l2 l3;have Jl:=Z_ (PK.out.alloc (.cells #[.string vn,.bool vp,.int .i64 PM,.int .i64 vz] 70));have QK:=Z_ (Vr.out.alloc (.cells #[.string vn,.bool vp,.int .i64 PM,.int .i64 vz] 70));have Vs:=Z_ (aC.made wr #[.string vn,.bool vp,.int .i64 PM,.int .i64 vz] 70);have Az:=Z_ (rS.out.alloc (.cells #[.string vn,.bool vp,.int .i64 PM,.int .i64 vz] 70));obtain⟨Vb,yE⟩:∃ Vb,wr.heap.size=Vb:=⟨_,rfl⟩;rw [yE] at Vs;clear rS PK Vr lz;go_upto_region 11 with (fail)
     try rw [yE]
     generalize wr.alloc (.cells #[.string vn,.bool vp,.int .i64 PM,.int .i64 vz] 70)=u5 at *;clear l0 l1 l2 l3 yE;have hvc:=Vs.out.cell;cases Jj with
     | false=>
      go_wp2_with fail
      go_roundw
      case rel=>exact⟨k+1,by omega,by go_num,Z_ fun h=>(by cases h),Az⟩
      case measure=>simp [intOf];omega
     | true=>
      by_cases hns:vn=s
      ·have hb1:(vn.toList == s.toList)=true:=by rw [hns];simp
       have I0:=Z_ ((HST.out rfl).1 hns);have hrc:=Jl.out.cell;have hrf:=Jl.out.frozen;have hrl:=Jl.out.lt;have hfc:=QK.out.cell;rw [QJ.out] at hfc;clear hns;go_wp2_with fail
       have Jm:=Z_ (((((Jl.out.set 0 (.int .i64 (-1))).set 1 (.string fm)).set 2 (.string s)).set 3 (.int .i64 PM)).set 4 (.int .i64 vz));refine bG rfl rfl rfl Jm.out Tryz.underlying343 rfl (by kernel_rfl) ?_
       simp only [List.setIfInBounds_toArray,List.set_cons_succ,List.set_cons_zero];have iV:=ai (ai (ai (ai (ai (S:=R) (aB.refl _ u5) 0 (.int .i64 (-1))) 1 (.string fm)) 2 (.string s)) 3 (.int .i64 PM)) 4 (.int .i64 vz)
       have hT:T=.ok ⟨-1,fm,s,PM,vz⟩:=by
        rw [←HT.out];unfold vY
        rw [o_.out,HQ.out];simp only
        rw [if_pos trivial,I0.out,QJ.out]
       have hso:s.size≤maxLen:=by
        have h:=HQ.out;exact yC t ht h
       rw [hT];exact⟨((HE.out.ext qW.out).ext Az.out).trans iV (fun i hi e=>by have:=Vq.out;omega),rfl,⟨by show fm.size≤maxLen;rw [←QJ.out];exact vZ.out,hso⟩⟩
      ·have hb1:(vn.toList == s.toList)=false:=by rw [ByteArray.toList_eq,ByteArray.toList_eq];simpa using fun e=>hns (ByteArray.ext (Array.toList_inj.1 e))
       have I0:=Z_ ((HST.out rfl).2 hns);clear hns;go_wp2_with fail
       go_roundw
       case rel=>exact⟨k+1,by omega,by go_num,Z_ fun _=>I0.out,Az⟩
       case measure=>simp [intOf];omega
    ·obtain rfl:k=nv:=by omega
     have hkd:decide ((k:Int)<(k:Int))=false:=by simp
     go_wp2_with fail
     have hT:T=.bad 4 p:=by
      rw [←HT.out];unfold vY
      rw [o_.out,HQ.out];simp only
      cases Jj with
      | false=>rfl
      | true=>
       have h:=Ut.out rfl;rw [List.take_of_length_le (by rw [Zn.out];exact Nat.le_refl _)] at h;rw [if_pos rfl,h]
     rw [hT];exact⟨rfl,(HE.out.ext qW.out).ext rS.out,rfl⟩
  | succ j=>
   have hjl:j<L.length:=by rw [HN.out];omega
   have hji:((j+1:Nat):Int)-1=(j:Int):=by omega
   have hjn:(j:Int)<(n:Int):=by omega
   have Vt:=Z_ (show (j:Int)<1000 by omega);obtain⟨b,o,rfl,hb,hin⟩:=Ji.out j hjl;rw [bT] at hb;have hin2:=mL (aH HX.out fun i _ e=>e.elim) _ _ _ hin;obtain⟨l0,l1,l2,lz⟩:=mL (ah _ _) _ _ _ hin2;have HST:=Z_ (Jg (t:=t) hjl);have hb2:=Nat.lt_of_lt_of_le hb HX.out.size;generalize L[j]=y at *;obtain⟨ln,ll,ld⟩:=y;simp only at l0 l1 l2 lz;rw [hji];have hw2:IntKind.i64.wrap ((j:Int)-1)=(j:Int)-1:=IntWalk.i64_in _ (by have:=Vt.out;omega);have Jl:=Z_ (HRr.out.alloc (.cells #[.string ln,.int .i64 ll,.int .i64 ld] 340));have Vs:=Z_ (aC.made wr #[.string ln,.int .i64 ll,.int .i64 ld] 340);have Az:=Z_ (HX.out.alloc (.cells #[.string ln,.int .i64 ll,.int .i64 ld] 340));obtain⟨Vb,yE⟩:∃ Vb,wr.heap.size=Vb:=⟨_,rfl⟩
   rw [yE] at Vs;clear hin hin2 hji;go_upto_region 5 with (fail)
   try rw [yE]
   generalize wr.alloc (.cells #[.string ln,.int .i64 ll,.int .i64 ld] 340)=u5 at *;clear l0 l1 l2 yE hcc;have hvc:=Vs.out.cell;by_cases hns:ln=t
   ·have hb1:(ln.toList == t.toList)=true:=by rw [hns];simp
    have Uu:=Z_ (show uX L t L.length=some (j,⟨ln,ll,ld⟩) by rw [←HF.out,HST.out,if_pos hns]);have hrc:=Jl.out.cell;have hrf:=Jl.out.frozen;have hrl:=Jl.out.lt;clear hns;go_wp2_with fail
    have Jm:=Z_ (((((Jl.out.set 0 (.int .i64 (j:Nat))).set 1 (.string ⟨#[]⟩)).set 2 (.string ⟨#[]⟩)).set 3 (.int .i64 ll)).set 4 (.int .i64 0));refine bG rfl rfl rfl Jm.out Tryz.underlying343 rfl (by kernel_rfl) ?_
    simp only [List.setIfInBounds_toArray,List.set_cons_succ,List.set_cons_zero];have iV:=ai (ai (ai (ai (ai (S:=R) (aB.refl _ u5) 0 (.int .i64 (j:Nat))) 1 (.string ⟨#[]⟩)) 2 (.string ⟨#[]⟩)) 3 (.int .i64 ll)) 4 (.int .i64 0)
    have hT:T=.ok ⟨(j:Nat),aU,aU,ll,0⟩:=by
     rw [←HT.out];unfold vY
     rw [Uu.out]
    rw [hT];exact⟨(HE.out.ext Az.out).trans iV (fun i hi e=>by have:=Vq.out;omega),rfl,(by decide:aU.size≤maxLen),(by decide:aU.size≤maxLen)⟩
   ·have hb1:(ln.toList == t.toList)=false:=by rw [ByteArray.toList_eq,ByteArray.toList_eq];simpa using fun e=>hns (ByteArray.ext (Array.toList_inj.1 e))
    have Uu:=Z_ (show uX L t j=uX L t L.length by rw [←HF.out,HST.out,if_neg hns]);clear hns;go_wp2_with fail
    go_roundw
    case rel=>exact⟨j,by omega,rfl,Uu,Az⟩
    case measure=>simp [intOf]
end chk
end Go.Proofs.YtpcihajmcejliacGreatDoor
namespace Go.Proofs.YtpcihajmcejliacGreatDoor
open Go.RowKit
namespace chk
open bu cG
structure PrC (W:World) (p:aI) (p0 p1 p2 p3 p4 p5:Value):Prop where
 c0:p0=.string p.name
 c1:p1=.bool p.dR
 c2:∃ a c,p2=.slice a p.params.length c∧bC 1 dJ W a p.params∧p.params.length≤c∧c≤maxLen
 c3:p3=.int .i64 p.writes
 c4:p4=.bool p.gives
 c5:p5=.int .i64 p.given
theorem Gt {l:List aI} {s:ByteArray} {k:Nat} (h:k<l.length):oI (l.take (k+1)) s=if l[k].name=s then some l[k] else oI (l.take k) s:=by
 unfold oI;rw [List.take_succ_eq_append_getElem h,List.foldl_append];rfl
def Vu (W u0 u:World) (X:Nat) (k0 m0:Int) (kv:Value) (ref:nD) (l0 ctx:Int) (o:Option aI):Prop:=
 aB (fun i=>i=X) u0 u∧∃ p0 p1 p2 p3 p4 p5,aC u X (jr k0 m0 kv ref p0 p1 p2 p3 p4 p5 l0 ctx) 345∧∀ p,o=some p→PrC W p p0 p1 p2 p3 p4 p5
def jK (w0:World) (z:Int) (ls:List Int) (n:Nat):List Value→World→Prop
 | [],u=>Ext w0 u
 | [v],u=>Ext w0 u∧∃ g,v=.slice (some ⟨g,0,none⟩) n n∧aC u g (ls.map (.int .i64)).toArray 3
 | _,u=>dW z ls=true∧Ext w0 u
theorem jK.ext {w0:World} {z:Int} {ls:List Int} {n:Nat} {vs:List Value} {u:World} (h:jK w0 z ls n vs u):Ext w0 u:=by
 match vs,h with
 | [],h=>exact h
 | [_],h=>exact h.1
 | _::_::_,h=>exact h.2
theorem kR {u:World} {g:Nat} {ls:List Int} {T:TypeId} (h:aC u g (ls.map (.int .i64)).toArray T):bC 1 dJ u (some ⟨g,0,none⟩) ls:=fun j hj=>⟨g,0,rfl,h.lt,by
 unfold dJ;rw [h.cell];simp [hj]⟩
theorem nP {w0 u:World} {z:Int} {ls:List Int} {n:Nat} {cs:Array Value} (h:Ext w0 u) (hc:cs=(ls.map (.int .i64)).toArray):jK w0 z ls n [.slice (some ⟨u.heap.size,0,none⟩) n n] (u.alloc (.cells cs 3)):=by
 subst hc;exact⟨h.alloc _,_,rfl,aC.made _ _ _⟩
def Jn (u:World) (X:Nat) (k0 m0:Int) (kv:Value) (ctx:Int) (T:Rz (nD×Int)) (e:Ending) (u':World):Prop:=aB (fun i=>i=X) u u'∧match T with
 | .bad c p=>e=.panicked (nG c (p:Nat))
 | .ok r=>e=.returned (.tuple #[])∧vX r.1∧∃ p0 p1 p2 p3 p4 p5,aC u' X (jr k0 m0 kv r.1 p0 p1 p2 p3 p4 p5 r.2 ctx) 345
theorem Gu {ps:List Int} {ks:List Tr}:∀ {j:Nat} (h1:j<ps.length) (h2:j<ks.length),lK (ps.take (j+1)) (ks.take (j+1))=(lK (ps.take j) (ks.take j)&&dW ps[j] [ks[j].lab]):=by
 induction ps generalizing ks with
 | nil=>intro j h;cases h
 | cons p r ih=>
  intro j h1 h2;cases ks with
  | nil=>cases h2
  | cons k q=>
   cases j with
   | zero=>simp [lK]
   | succ j=>
    simp only [List.take_succ_cons,lK,List.getElem_cons_succ];rw [ih (by simpa using h1) (by simpa using h2),Bool.and_assoc]
theorem Jo {ps:List Int} {ks:List Tr}:∀ {j:Nat} (h1:j<ps.length) (h2:j<ks.length),dW ps[j] [ks[j].lab]=false→lK ps ks=false:=by
 induction ps generalizing ks with
 | nil=>intro j h;cases h
 | cons p r ih=>
  intro j h1 h2 hb;cases ks with
  | nil=>cases h2
  | cons k q=>
   cases j with
   | zero=>
    rw [lK];have hb':dW p [k.lab]=false:=hb;rw [hb'];rfl
   | succ j=>
    rw [lK,ih (j:=j) (by simpa using h1) (by simpa using h2) (by simpa using hb),Bool.and_false]
set_option maxRecDepth 100000 in
set_option maxHeartbeats 8000000 in
theorem v_ {W u:World} {C Mo D K P B:Nat} {E:dI} {vl:Value} {L:List Loc} {deep at_:Int} {cO dw:Value} {dc pc:Array Value} (h:CS W u C Mo D K P B E vl L deep at_ cO dw dc pc) (hmv:cE W) {X:Nat} {k0 m0 l0 ctx:Int} {ka:Option Addr} {kc:Nat} {ks:List Tr} {q0 q1 q2 q3 q4 q5:Value} {t:ByteArray} {n1:Int} {n2:Value} (alone:Bool) (p:Nat)
  (hX:aC u X (jr k0 m0 (.slice ka ks.length kc) gq q0 q1 q2 q3 q4 q5 l0 ctx) 345) (hks:bC 1 A7 (hide (fun i=>decide (i=X)) u) ka ks) (hkc:ks.length≤kc) (hkn:ks.length≤1000) (ht:t.size≤10000) (hXW:W.heap.size≤X) (hXB:B≤X) (hn2:∃ a b c,n2=.slice a b c) :
  Calls Tryz.prog 338 #[.pointer (some ⟨C,0,none⟩),.agg #[.int .i64 18,.string t,.int .i64 n1,n2],.pointer (some ⟨X,0,none⟩),.int .i64 (p:Nat),.bool alone] u (Jn u X k0 m0 (.slice ka ks.length kc) ctx (rV E ctx alone t ks p)):=by
 obtain⟨T,hT⟩:∃ T,rV E ctx alone t ks p=T:=⟨_,rfl⟩;rw [hT];unfold rV at hT;obtain⟨na,nb,nc,rfl⟩:=hn2;have HKS:=Z_ hks;have uD:=Z_ hmv;obtain⟨nk,hnk⟩:∃ nk,ks.length=nk:=⟨_,rfl⟩;rw [hnk] at hX hkc hkn ⊢;have HNK:=Z_ hnk;have hE0:=(aB.refl (fun _=>False) u).alloc (.cells #[.int .i64 18,.string t,.int .i64 n1,.slice na nb nc] 24);have HC:=Z_ (h.extend hE0);have HN:=Z_ (aC.made u #[.int .i64 18,.string t,.int .i64 n1,.slice na nb nc] 24);have HX:=Z_ (hX.ext hE0);have HE:=Z_ hE0;have hXl:=hX.lt;obtain⟨N,hN⟩:∃ N,u.heap.size=N:=⟨_,rfl⟩;rw [hN] at HN hXl;clear hE0 h hX hks hmv hnk;go_enter Tryz.func338,Tryz.ntmps338
 go_upto_region 1 with (fail)
 try rw [hN]
 generalize u.alloc (.cells #[.int .i64 18,.string t,.int .i64 n1,.slice na nb nc] 24)=u1 at *;clear hN;have hnc:=HN.out.cell;go_wp2_with fail
 refine(AZ HC.out uD.out t ht).mono ?_
 rintro e w2 ⟨fv,rfl,hfa,hE2⟩;obtain⟨Q,hQ⟩:∃ Q,kQ E t=Q:=⟨_,rfl⟩;have hns:=fun f s b e=>yC t ht (E:=E) (f:=f) (s:=s) (b:=b) (hQ.trans e)
 rw [hQ] at hfa hT ⊢;obtain⟨f,s,Jj⟩:=Q;have mM:=Z_ (hns f s Jj rfl);replace hfa:fE W f fv:=hfa;obtain⟨a9,m9,c9,d9,rfl,-,hva,hms,-,-,hd9,hd8⟩:=hfa;simp only at hT;have HT:=Z_ hT;have rU:=hE2.alloc (.cells #[.string f.modn,.slice a9 f.vars.length m9,.slice c9 f.procs.length d9] 37);have HF:=Z_ (aC.made w2 #[.string f.modn,.slice a9 f.vars.length m9,.slice c9 f.procs.length d9] 37);have HV:=Z_ (fun (w:World) (hE:Ext W w)=>(hva.mono hE.size fun _ _ _ hb h=>dB.ext hE hb h:bC 6 dB w c9 f.procs));have HI:=Z_ hva;have wu:=Z_ (HC.out.extend rU);have HX3:=Z_ (HX.out.ext rU);have qW:=Z_ (HE.out.ext rU);have vZ:=Z_ hms;obtain⟨F,hF⟩:∃ F,w2.heap.size=F:=⟨_,rfl⟩;rw [hF] at HF;have HXF:=Z_ (show X<F by have h1:=HX.out.lt;have h2:=hE2.size;omega)
 have HWX:=Z_ hXW;have I4:=Z_ hXB;clear hE2 rU hva hT hms hnc HC HN HX HE hQ hns;go_upto_region 2 with (fail)
 try rw [hF]
 generalize w2.alloc (.cells #[.string f.modn,.slice a9 f.vars.length m9,.slice c9 f.procs.length d9] 37)=u3 at *;clear hF;have hfc:=HF.out.cell;obtain⟨np,hnp⟩:∃ np,f.procs.length=np:=⟨_,rfl⟩;rw [hnp] at hfc hd9;have Fv:=Z_ hnp;obtain⟨fm,hfm⟩:∃ fm,f.modn=fm:=⟨_,rfl⟩;rw [hfm] at hfc;have QJ:=Z_ hfm;have ai3:np≤9223372036854775807:=by unfold maxLen at hd8;omega
 clear hnp hfm;go_wp2_with fail
 clear hfc;go_loopw [13,30] (fun fd i wr=>∃ (k:Nat) (o:Option aI),k≤np∧i=.int .i64 (k:Nat)∧fd=.bool o.isSome∧Hid ((if Jj=true then oI (f.procs.take k) s else none)=o)∧Hid (Vu W u3 wr X k0 m0 (.slice ka nk kc) gq l0 ctx o)) (fun _ i _=>np-(intOf i).toNat)
 case atStart=>exact⟨0,none,Nat.zero_le _,rfl,rfl,Z_ (by split<;>rfl),Z_ ⟨aB.refl _ _,_,_,_,_,_,_,HX3.out,fun p h=>by cases h⟩⟩
 case round=>
  obtain⟨k,o,hk,rfl,rfl,HO,Fz⟩:=hrel;have Vr:=Z_ (HF.out.aK Fz.out.1 (by have:=HXF.out;omega));have HW4:=Z_ (wu.out.ext.trans Fz.out.1 (fun i hi e=>by have:=HWX.out;omega));by_cases hlt:k<np
  ·have hki:(k:Int)<(np:Int):=by omega
   have hkd:decide ((k:Int)<(np:Int))=true:=by simpa using hki
   have hkl:k<f.procs.length:=by rw [Fv.out];exact hlt
   obtain⟨b,o9,rfl,hb,hin⟩:=HI.out k hkl;obtain⟨b2,o2,e2,-,hin2⟩:=HV.out _ HW4.out k hkl;cases e2
   obtain⟨j0,j1,⟨pa,tK,j2,j6,j7,j8⟩,-⟩:=hin;obtain⟨l0',l1,⟨pa',A8,l2,-⟩,l3,l4,l5,-⟩:=hin2;have hpe:pa'=pa∧A8=tK:=by have:=(HW4.out.cell (p:=⟨b,o9+k*6+2,none⟩) hb id).symm.trans l2;rw [j2] at this;cases this;exact⟨rfl,rfl⟩
   obtain⟨rfl,rfl⟩:=hpe;have HST:=Z_ (Gt (s:=s) hkl);have lM:=Z_ j6;generalize f.procs[k]=y at *;obtain⟨yn,yp,yl,yw,yg,yv⟩:=y;simp only at l0' l1 l2 l3 l4 l5 j6 j7;obtain⟨nl,hnl⟩:∃ nl,yl.length=nl:=⟨_,rfl⟩;rw [hnl] at l2;have Jp:=Z_ hnl;have HJ:=Z_ (And.intro j7 j8);clear j0 j1 j2 j6 j7 j8 hb hnl;obtain⟨Jq,p0,p1,p2,p3,p4,p5,DR,Jr⟩:=Fz.out;have Zo:=Z_ (aC.made wr #[.string yn,.bool yp,.slice pa' nl A8,.int .i64 yw,.bool yg,.int .i64 yv] 68);have Az:=Z_ (DR.alloc (.cells #[.string yn,.bool yp,.slice pa' nl A8,.int .i64 yw,.bool yg,.int .i64 yv] 68));have Js:=Z_ (Jq.alloc (.cells #[.string yn,.bool yp,.slice pa' nl A8,.int .i64 yw,.bool yg,.int .i64 yv] 68));have HO5:=Z_ Jr;obtain⟨Pb,FA⟩:∃ Pb,wr.heap.size=Pb:=⟨_,rfl⟩
   rw [FA] at Zo;clear Jq DR Jr Fz;go_upto_region 6 with (fail)
   try rw [FA]
   generalize wr.alloc (.cells #[.string yn,.bool yp,.slice pa' nl A8,.int .i64 yw,.bool yg,.int .i64 yv] 68)=u5 at *;clear l0' l1 l2 l3 l4 l5 FA;have hpc:=Zo.out.cell;cases Jj with
   | false=>
    have Zp:=Z_ (show (none:Option aI)=o by have h:=HO.out;rw [if_neg (by decide)] at h;exact h);go_wp2_with fail
    go_roundw
    case rel=>exact⟨k+1,o,by omega,by go_num,rfl,Z_ (by first|exact Zp.out|(rw [if_neg (by decide)];exact Zp.out)),Z_ ⟨Js.out,_,_,_,_,_,_,Az.out,HO5.out⟩⟩
    case measure=>simp [intOf];omega
   | true=>
    have Zp:=Z_ (show oI (f.procs.take k) s=o by have h:=HO.out;rw [if_pos rfl] at h;exact h);by_cases hns:yn=s
    ·have hb1:(yn.toList == s.toList)=true:=by rw [hns];simp
     have Dv:=Z_ (show oI (f.procs.take (k+1)) s=some ⟨yn,yp,yl,yw,yg,yv⟩ by rw [HST.out,if_pos hns]);have Dw:=Az.out.frozen;have hxl:=Az.out.lt;have mg:=Az.out.cell;unfold jr at mg;clear hns;go_wp2_with fail
     have kO:=Z_ ((((((Az.out.set 8 (.string yn)).set 9 (.bool yp)).set 10 (.slice pa' nl A8)).set 11 (.int .i64 yw)).set 12 (.bool yg)).set 13 (.int .i64 yv));have Dx:=Z_ (ai (ai (ai (ai (ai (ai Js.out 8 (.string yn)) 9 (.bool yp)) 10 (.slice pa' nl A8)) 11 (.int .i64 yw)) 12 (.bool yg)) 13 (.int .i64 yv));go_roundw
     case rel=>exact⟨k+1,some ⟨yn,yp,yl,yw,yg,yv⟩,by omega,by go_num,rfl,Z_ (by first|exact Dv.out|(rw [if_pos rfl];exact Dv.out)),Z_ ⟨Dx.out,_,_,_,_,_,_,kO.out,fun p h=>by cases h;exact⟨rfl,rfl,⟨pa',A8,by rw [Jp.out],lM.out,HJ.out.1,HJ.out.2⟩,rfl,rfl,rfl⟩⟩⟩
     case measure=>simp [intOf];omega
    ·have hb1:(yn.toList == s.toList)=false:=by rw [ByteArray.toList_eq,ByteArray.toList_eq];simpa using fun e=>hns (ByteArray.ext (Array.toList_inj.1 e))
     have Dv:=Z_ (show oI (f.procs.take (k+1)) s=o by rw [HST.out,if_neg hns];exact Zp.out);clear hns;go_wp2_with fail
     go_roundw
     case rel=>exact⟨k+1,o,by omega,by go_num,rfl,Z_ (by first|exact Dv.out|(rw [if_pos rfl];exact Dv.out)),Z_ ⟨Js.out,_,_,_,_,_,_,Az.out,HO5.out⟩⟩
     case measure=>simp [intOf];omega
  ·obtain rfl:k=np:=by omega
   have hkd:decide ((k:Int)<(k:Int))=false:=by simp
   have Gv:=Z_ (show (if Jj=true then oI f.procs s else none)=o by have h:=HO.out;rw [List.take_of_length_le (by rw [Fv.out];exact Nat.le_refl _)] at h;exact h);have HT2:=Z_ (show FB fm s ctx alone ks p o=T by have h:=HT.out;rw [Gv.out,QJ.out] at h;exact h);have zu:=Z_ (fun (u':World) (hg:aB (fun i=>i=X) u3 u')=>(show aB (fun i=>i=X) u u' from(qW.out.weak fun _ _ e=>e.elim).then hg));clear HO HT Gv HV HI;cases o with
   | none=>
    have qp:=Z_ (show T=.bad 4 p from HT2.out.symm);have hg0:=zu.out _ Fz.out.1;go_wp2_with fail
    refine(bY 4 (p:Nat) _).mono ?_
    rintro e w8 ⟨rfl,rfl⟩;go_wp2_with fail
    exact⟨rfl,hg0,by rw [qp.out]⟩
   | some y=>
    obtain⟨Jq,p0,p1,p2,p3,p4,p5,DR,Jr⟩:=Fz.out;obtain⟨rfl,rfl,⟨pa,tK,rfl,hpi,hp1,hp2⟩,rfl,rfl,rfl⟩:=Jr _ rfl;obtain⟨yn,yp,yl,yw,yg,yv⟩:=y;simp only at hpi hp1 hp2 DR;have lM:=Z_ (fun (w:World) (hE:Ext W w)=>(hpi.mono hE.size fun _ _ _ hb h=>dJ.ext hE hb h:bC 1 dJ w pa yl));obtain⟨nl,hnl⟩:∃ nl,yl.length=nl:=⟨_,rfl⟩;rw [hnl] at hp1 DR;have Jp:=Z_ hnl;have HT3:=Z_ (show (if nl≠nk then (.bad 6 p:Rz (nD×Int)) else if (yg || alone)=false then .bad 3 p else if lK yl ks=false then .bad 7 p else if dW yw [ctx]=false then .bad 7 p else .ok (⟨-1,fm,s,0,0⟩,yv))=T by have h:=HT2.out;unfold FB at h;simp only at h;rw [hnl,HNK.out] at h;exact h);have MJ:=Z_ DR;have QL:=Z_ Jq;clear hpi hnl Jq DR Jr HT2 Fz;have mg:=MJ.out.cell;have Dw:=MJ.out.frozen
    have hxl:=MJ.out.lt;unfold jr at mg;go_wp2_with fail
    refine(bM 4 (p:Nat) _).mono ?_
    rintro e w8 ⟨rfl,rfl⟩;have HQ7:=Z_ (aC.made w8 #[.string yn,.bool yp,.slice pa nl tK,.int .i64 yw,.bool yg,.int .i64 yv] 68);have AA:=Z_ (MJ.out.alloc (.cells #[.string yn,.bool yp,.slice pa nl tK,.int .i64 yw,.bool yg,.int .i64 yv] 68));have ML:=Z_ (QL.out.alloc (.cells #[.string yn,.bool yp,.slice pa nl tK,.int .i64 yw,.bool yg,.int .i64 yv] 68));have QM:=Z_ (Vr.out.alloc (.cells #[.string yn,.bool yp,.slice pa nl tK,.int .i64 yw,.bool yg,.int .i64 yv] 68));obtain⟨Pb,FA⟩:∃ Pb,w8.heap.size=Pb:=⟨_,rfl⟩;rw [FA] at HQ7 hxl;go_upto_region 11 with (fail)
    try rw [FA]
    generalize w8.alloc (.cells #[.string yn,.bool yp,.slice pa nl tK,.int .i64 yw,.bool yg,.int .i64 yv] 68)=u7 at *;clear mg Dw FA Vr MJ QL;have HXP:=Z_ (show X<Pb from hxl);have Dw:=AA.out.frozen;have hx7:=AA.out.lt;have mg:=AA.out.cell;unfold jr at mg;have hfc:=QM.out.cell;rw [QJ.out] at hfc;go_upto_region 12 with (fail)
    have Dy:=Z_ (((((AA.out.set 3 (.int .i64 (-1))).set 4 (.string fm)).set 5 (.string s)).set 6 (.int .i64 0)).set 7 (.int .i64 0));have Dy:=Z_ (show aC _ X (jr k0 m0 (.slice ka nk kc) ⟨-1,fm,s,0,0⟩ (.string yn) (.bool yp) (.slice pa nl tK) (.int .i64 yw) (.bool yg) (.int .i64 yv) l0 ctx) 345 from Dy.out);have Uw:=Z_ (ai (ai (ai (ai (ai ML.out 3 (.int .i64 (-1))) 4 (.string fm)) 5 (.string s)) 6 (.int .i64 0)) 7 (.int .i64 0));have HQ8:=Z_ (HQ7.out.aK (ai (ai (ai (ai (ai (aB.refl (fun i=>i=X) u7) 3 (.int .i64 (-1))) 4 (.string fm)) 5 (.string s)) 6 (.int .i64 0)) 7 (.int .i64 0)) (by have:=HXP.out;omega));clear Dw hx7 mg hfc AA ML HQ7 QM hxl;generalize ((((u7.setCell ⟨X,3,none⟩ (.int .i64 (-1))).setCell ⟨X,4,none⟩ (.string fm)).setCell ⟨X,5,none⟩ (.string s)).setCell ⟨X,6,none⟩ (.int .i64 0)).setCell ⟨X,7,none⟩ (.int .i64 0)=u8 at *
    have mg:=Dy.out.cell;unfold jr at mg;have hqc:=HQ8.out.cell;by_cases hlk:nl=nk
    ·subst hlk
     have hle:((nl:Int) == (nl:Int))=true:=by simp
     have hle2:(nl == nl)=true:=by simp
     have HT4:=Z_ (show (if (yg || alone)=false then (.bad 3 p:Rz (nD×Int)) else if lK yl ks=false then .bad 7 p else if dW yw [ctx]=false then .bad 7 p else .ok (⟨-1,fm,s,0,0⟩,yv))=T by have h:=HT3.out;rw [if_neg (fun h=>h rfl)] at h;exact h);clear HT3;go_still_tail 10,(by kernel_rfl)
     go_wp2_with fail
     refine(bM 6 (p:Nat) _).mono ?_
     rintro e w9 ⟨rfl,rfl⟩;have kO:=Z_ (show aC u8.drew X _ _ from Dy.out);have Vw:=Z_ (show aC u8.drew Pb _ _ from HQ8.out);have Dx:=Z_ (Uw.out.drew);clear mg hqc Dy HQ8 Uw hle hle2;generalize u8.drew=u9 at *;by_cases hga:(yg || alone)=true
     ·have Dz:=Z_ (show (if lK yl ks=false then (.bad 7 p:Rz (nD×Int)) else if dW yw [ctx]=false then .bad 7 p else .ok (⟨-1,fm,s,0,0⟩,yv))=T by have h:=HT4.out;rw [if_neg (by rw [hga];decide)] at h;exact h)
      have hqc:=Vw.out.cell;have mg:=kO.out.cell;unfold jr at mg;have hkey:yg=true∨(yg=false∧alone=true):=by cases yg<;>simp_all
      clear hga HT4;go_upto_region 13 with (fail)
      go_cut [] (fun w'=>w'=u9)
      case first=>
       rcases hkey with rfl|⟨rfl,rfl⟩
       all_goals
        go_wp2_with fail
        refine(bM 3 (p:Nat) _).mono ?_
        rintro e w9 ⟨rfl,rfl⟩;go_wp2_with fail
        go_meet
        exact rfl
      case rest=>
       clear hkey;generalize wc=w9 at *;subst hcut;go_wp2_with fail
       clear hqc mg;go_loopw [83] (fun i wr=>∃ j:Nat,j≤nl∧i=.int .i64 (j:Nat)∧Hid (lK (yl.take j) (ks.take j)=true)∧Hid (Ext w9 wr)) (fun i _=>nl-(intOf i).toNat)
       case atStart=>exact⟨0,Nat.zero_le _,rfl,Z_ (by simp [lK]),Z_ (aB.refl _ _)⟩
       case round=>
        obtain⟨j,hj,rfl,HA,HZ⟩:=hrel;have Az:=Z_ (kO.out.ext HZ.out);have PN:=Z_ (Vw.out.ext HZ.out);by_cases hlt:j<nl
        ·have hji:(j:Int)<(nl:Int):=by omega
         have hjd:decide ((j:Int)<(nl:Int))=true:=by simpa using hji
         have h1:j<yl.length:=by rw [Jp.out];exact hlt
         have h2:j<ks.length:=by rw [HNK.out];exact hlt
         obtain⟨pb,po,rfl,hpb,A_⟩:=lM.out wr (wu.out.ext.trans (Dx.out.ext HZ.out) (fun i hi e=>by have:=HWX.out;omega)) j h1;obtain⟨kb,ko,rfl,hkb,Vx⟩:=HKS.out j h2;have PO:=kK (aH (M:=fun i=>decide (i=X)) (zu.out _ (Dx.out.ext HZ.out)) fun i _ e=>by simp [e]) _ _ _ Vx;obtain⟨v9,hv9,hta⟩:=kK (ah _ _) _ _ _ PO;obtain⟨g2,a2,c2,r0,r1,r2,r3,r4,r5,rfl,hg2,hc2,-⟩:=nR hta;have q14:wr.cell? ⟨g2,14,none⟩=some (.int .i64 ks[j].lab):=hc2 14 (by decide);have uF:=Z_ (Gu h1 h2);have Jt:=Z_ (Jo h1 h2);unfold dJ at A_;rw [Nat.mul_one] at A_ hv9;generalize yl[j]=y at A_ uF Jt;generalize ks[j].lab=z at q14 uF Jt;clear hc2 hta Vx PO h1 h2;go_upto_region 17 with (fail)
         refine aj [10,11] (fun i v _=>v=([.int .i64 (p:Nat),.pointer (some ⟨Pb,2,none⟩),.slice (some ⟨pb,po,none⟩) nl tK,.int .i64 (j:Nat),.pointer (some ⟨pb,po+j,none⟩),.int .i64 y,.pointer (some ⟨g2,0,none⟩),.pointer (some ⟨g2,0,none⟩),.pointer (some ⟨g2,14,none⟩),.int .i64 z,undef,undef]:List Value).getD i undef) (jK wr y [z] 1) (fun _ _=>True) (frame:=?aa3) (fun x=>?QN) bu.mixed (by kernel_rfl) (by kernel_rfl) (fun _ _ _ _ h _=>h) ?h0k ?stk ?QO
         case QN=>
          simp only [chain.aN,chain.fill,chain.bf,chain.aY,jW,jX,jY,jZ,kz,kC,kD,kE,kF];exact rfl
         case h0k=>exact(aB.refl _ _).drew
         case stk=>
          iterate 12 (refine ak.cons (fun x vs u hF hm hb hd K' hK'=>?_) ?_;rotate_left)
          exact ak.nil
          ·have HF:=Z_ hF;clear hd hm hb hF;go_simp;exact hK'.out _ _ _ (rfl) trivial ⟨rfl,HF.out⟩
          ·have HF:=Z_ hF;clear hd hm hb hF;go_simp;exact hK'.out _ _ _ (rfl) trivial ⟨rfl,HF.out⟩
          ·have fU:=jK.ext hF;have hq:=(PN.out.ext fU).cell;clear fU;have y0:x 89=.pointer (some ⟨Pb,2,none⟩):=(D_ hd 1 :);have HF:=Z_ hF;clear hd hm hb hF;go_simp;exact hK'.out _ _ _ (by simp only [y0];rfl) trivial ⟨rfl,HF.out⟩
          ·have HF:=Z_ hF;clear hd hm hb hF;go_simp;exact hK'.out _ _ _ (rfl) trivial ⟨rfl,HF.out⟩
          ·have y0:x 90=.slice (some ⟨pb,po,none⟩) nl tK:=(D_ hd 2 :);have y1:x 91=.int .i64 (j:Nat):=(D_ hd 3 :);have HF:=Z_ hF;clear hd hm hb hF;go_simp;exact hK'.out _ _ _ (by simp only [y0,y1];rfl) trivial ⟨rfl,HF.out⟩
          ·have fU:=jK.ext hF;have hq:=(fU.cell (p:=⟨pb,po+j,none⟩) hpb id).trans A_;clear fU;have y0:x 92=.pointer (some ⟨pb,po+j,none⟩):=(D_ hd 4 :);have HF:=Z_ hF;clear hd hm hb hF;go_simp;exact hK'.out _ _ _ (by simp only [y0];rfl) trivial ⟨rfl,HF.out⟩
          ·have HF:=Z_ hF;clear hd hm hb hF;go_simp;exact hK'.out _ _ _ (rfl) trivial ⟨rfl,HF.out⟩
          ·have y0:x 94=.pointer (some ⟨g2,0,none⟩):=(D_ hd 6 :);have HF:=Z_ hF;clear hd hm hb hF;go_simp;exact hK'.out _ _ _ (by simp only [y0];rfl) trivial ⟨rfl,HF.out⟩
          ·have y0:x 95=.pointer (some ⟨g2,0,none⟩):=(D_ hd 7 :);have HF:=Z_ hF;clear hd hm hb hF;go_simp;exact hK'.out _ _ _ (by simp only [y0];rfl) trivial ⟨rfl,HF.out⟩
          ·have fU:=jK.ext hF;have hq:=(fU.cell (p:=⟨g2,14,none⟩) hg2 id).trans q14;clear fU;have y0:x 96=.pointer (some ⟨g2,14,none⟩):=(D_ hd 8 :);have HF:=Z_ hF;clear hd hm hb hF;go_simp;exact hK'.out _ _ _ (by simp only [y0];rfl) trivial ⟨rfl,HF.out⟩
          ·obtain rfl:=kS hm;have y0:x 97=.int .i64 z:=(D_ hd 9 :);have HF:=Z_ hF;clear hd hm hb hF;go_simp;exact hK'.out _ _ _ (by simp only [y0];rfl) trivial (nP HF.out rfl)
          ·obtain⟨v0,rfl⟩:=mD hm
           have y0:x 88=.int .i64 (p:Nat):=(D_ hd 0 :);have y1:x 93=.int .i64 y:=(D_ hd 5 :);have y2:x 98=v0:=((D_ hd 10) 98 (by kernel_rfl) :);obtain⟨nS,g9,rfl,wA⟩:=hF;have vK:=Z_ (show Calls Tryz.prog 283 #[.int .i64 (p:Nat),.int .i64 (y),.slice (some ⟨g9,0,none⟩) 1 1] u (jL (y) [z] (p:Nat) u) from jG (p:Nat) (y) (some ⟨g9,0,none⟩) 1 [z] u (kR wA) (Nat.le_refl _) (by simp));have Gw:=Z_ nS;clear hd hm hb nS wA;go_simp;refine vK.out.mono ?_
           rintro e u2 ⟨hy1,hy2,rfl⟩;cases hfl:dW (y) [z] with
           | true=>
            obtain rfl:=hy1 hfl;exact hK'.out _ _ _ (by simp only [y0,y1,y2];rfl) trivial ⟨hfl,Gw.out⟩
           | false=>
            obtain rfl:=hy2 hfl;go_wp2_with fail
            exact⟨rfl,(zu.out _ ((Dx.out.ext HZ.out).ext Gw.out)),by rw [←Dz.out,if_pos (Jt.out hfl)]⟩
         case QO=>
          intro x9 qX w9 hl hF hk9;obtain⟨v0,v1,rfl⟩:=DT hl
          obtain⟨hfl,nS⟩:=hF;have Gw:=Z_ nS;have HAJ:=Z_ (show lK (yl.take (j+1)) (ks.take (j+1))=true by rw [uF.out,HA.out,hfl];rfl);clear hk9 hl hfl nS;go_wp2_with fail
          go_roundw
          case rel=>exact⟨j+1,by omega,by go_num,HAJ,Z_ (HZ.out.ext Gw.out)⟩
          case measure=>simp [intOf];omega
        ·obtain rfl:j=nl:=by omega
         have hjd:decide ((j:Int)<(j:Int))=false:=by simp
         have MN:=Z_ (show (if dW yw [ctx]=false then (.bad 7 p:Rz (nD×Int)) else .ok (⟨-1,fm,s,0,0⟩,yv))=T by
          have h:=Dz.out;have h3:=HA.out;rw [List.take_of_length_le (by rw [Jp.out];exact Nat.le_refl _),List.take_of_length_le (by rw [HNK.out];exact Nat.le_refl _)] at h3;rw [if_neg (by rw [h3];decide)] at h;exact h)
         go_upto_region 19 with (fail)
         refine aj [7,8] (fun i v _=>v=([.int .i64 (p:Nat),.pointer (some ⟨Pb,3,none⟩),.int .i64 yw,.pointer (some ⟨X,0,none⟩),.pointer (some ⟨X,0,none⟩),.pointer (some ⟨X,15,none⟩),.int .i64 ctx,undef,undef]:List Value).getD i undef) (jK wr yw [ctx] 1) (fun _ _=>True) (frame:=?aa5) (fun x=>?QS) bu.mixed (by kernel_rfl) (by kernel_rfl) (fun _ _ _ _ h _=>h) ?h0w ?stw ?QT
         case QS=>
          simp only [chain.aN,chain.fill,chain.bf,chain.aY,jW,jX,jY,jZ,kz,kC,kD,kE,kF];exact rfl
         case h0w=>exact(aB.refl _ _).drew
         case stw=>
          iterate 9 (refine ak.cons (fun x vs u hF hm hb hd K' hK'=>?_) ?_;rotate_left)
          exact ak.nil
          ·have HF:=Z_ hF;clear hd hm hb hF;go_simp;exact hK'.out _ _ _ (rfl) trivial ⟨rfl,HF.out⟩
          ·have HF:=Z_ hF;clear hd hm hb hF;go_simp;exact hK'.out _ _ _ (rfl) trivial ⟨rfl,HF.out⟩
          ·have fU:=jK.ext hF;have hq:=(PN.out.ext fU).cell;clear fU;have y0:x 102=.pointer (some ⟨Pb,3,none⟩):=(D_ hd 1 :);have HF:=Z_ hF;clear hd hm hb hF;go_simp;exact hK'.out _ _ _ (by simp only [y0];rfl) trivial ⟨rfl,HF.out⟩
          ·have HF:=Z_ hF;clear hd hm hb hF;go_simp;exact hK'.out _ _ _ (rfl) trivial ⟨rfl,HF.out⟩
          ·have y0:x 104=.pointer (some ⟨X,0,none⟩):=(D_ hd 3 :);have HF:=Z_ hF;clear hd hm hb hF;go_simp;exact hK'.out _ _ _ (by simp only [y0];rfl) trivial ⟨rfl,HF.out⟩
          ·have y0:x 105=.pointer (some ⟨X,0,none⟩):=(D_ hd 4 :);have HF:=Z_ hF;clear hd hm hb hF;go_simp;exact hK'.out _ _ _ (by simp only [y0];rfl) trivial ⟨rfl,HF.out⟩
          ·have fU:=jK.ext hF;have hq:=(Az.out.ext fU).cell;unfold jr at hq;clear fU;have y0:x 106=.pointer (some ⟨X,15,none⟩):=(D_ hd 5 :);have HF:=Z_ hF;clear hd hm hb hF;go_simp;exact hK'.out _ _ _ (by simp only [y0];rfl) trivial ⟨rfl,HF.out⟩
          ·obtain rfl:=kS hm;have y0:x 107=.int .i64 ctx:=(D_ hd 6 :);have HF:=Z_ hF;clear hd hm hb hF;go_simp;exact hK'.out _ _ _ (by simp only [y0];rfl) trivial (nP HF.out rfl)
          ·obtain⟨v0,rfl⟩:=mD hm
           have y0:x 101=.int .i64 (p:Nat):=(D_ hd 0 :);have y1:x 103=.int .i64 yw:=(D_ hd 2 :);have y2:x 108=v0:=((D_ hd 7) 108 (by kernel_rfl) :);obtain⟨nS,g9,rfl,wA⟩:=hF;have vK:=Z_ (show Calls Tryz.prog 283 #[.int .i64 (p:Nat),.int .i64 (yw),.slice (some ⟨g9,0,none⟩) 1 1] u (jL (yw) [ctx] (p:Nat) u) from jG (p:Nat) (yw) (some ⟨g9,0,none⟩) 1 [ctx] u (kR wA) (Nat.le_refl _) (by simp));have Gw:=Z_ nS;clear hd hm hb nS wA;go_simp;refine vK.out.mono ?_
           rintro e u2 ⟨hy1,hy2,rfl⟩;cases hfl:dW (yw) [ctx] with
           | true=>
            obtain rfl:=hy1 hfl;exact hK'.out _ _ _ (by simp only [y0,y1,y2];rfl) trivial ⟨hfl,Gw.out⟩
           | false=>
            obtain rfl:=hy2 hfl;go_wp2_with fail
            exact⟨rfl,(zu.out _ ((Dx.out.ext HZ.out).ext Gw.out)),by rw [←MN.out,if_pos hfl]⟩
         case QT=>
          intro x9 qX w9 hl hF hk9;obtain⟨v0,v1,rfl⟩:=DT hl
          obtain⟨hfl,nS⟩:=hF;have MJ:=Z_ (Az.out.ext nS);have QL:=Z_ (((Dx.out.ext HZ.out).ext nS));have hqc:=(PN.out.ext nS).cell;have Dw:=MJ.out.frozen;have hxl:=MJ.out.lt;have mg:=MJ.out.cell;unfold jr at mg;have MO:=Z_ (show T=.ok (⟨-1,fm,s,0,0⟩,yv) by rw [←MN.out,if_neg (by rw [hfl];decide)]);clear hk9 hl hfl nS;go_wp2_with fail
          go_end0
          have AA:=Z_ (MJ.out.set 14 (.int .i64 yv));refine⟨zu.out _ (ai QL.out 14 (.int .i64 yv)),?_⟩
          rw [MO.out];exact⟨rfl,⟨by show fm.size≤maxLen;rw [←QJ.out];exact vZ.out,mM.out⟩,_,_,_,_,_,_,AA.out⟩
     ·obtain⟨rfl,rfl⟩:yg=false∧alone=false:=by cases yg<;>cases alone<;>simp_all
      have qp:=Z_ (show T=.bad 3 p by have h:=HT4.out;first|exact h.symm|(rw [if_pos rfl] at h;exact h.symm)|(simp at h;exact h.symm));have hg0:=zu.out _ Dx.out;have hqc:=Vw.out.cell;clear HT4 hga;go_wp2_with fail
      refine(bY 3 (p:Nat) _).mono ?_
      rintro e w9 ⟨rfl,rfl⟩;go_wp2_with fail
      exact⟨rfl,hg0,by rw [qp.out]⟩
    ·have hle:((nl:Int) == (nk:Int))=false:=beq_eq_false_iff_ne.2 (by omega)
     have hle2:(nl == nk)=false:=beq_eq_false_iff_ne.2 hlk;have qp:=Z_ (show T=.bad 6 p by have h:=HT3.out;rw [if_pos hlk] at h;exact h.symm);have hg0:=zu.out _ Uw.out;clear HT3 hlk;go_still_tail 10,(by kernel_rfl)
     go_wp2_with fail
     refine(bY 6 (p:Nat) _).mono ?_
     rintro e w9 ⟨rfl,rfl⟩;go_wp2_with fail
     exact⟨rfl,hg0.drew,by rw [qp.out]⟩
end chk
end Go.Proofs.YtpcihajmcejliacGreatDoor
