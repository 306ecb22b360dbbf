/- The walk of syntax.weigh. How large and how deep a node is, in plain Lean. What a module's declarations are, in plain Lean: its face, its imports, the first fault. The walk of the program's parser: expressions. The walk of the program's parser: unary. -/
import Derived.Test.YtpcihajmcejliacGreatDoorSynC
import Derived.Test.YtpcihajmcejliacGreatDoorLexNum
import Derived.Test.YtpcihajmcejliacGreatDoorName
namespace Go.Proofs.YtpcihajmcejliacGreatDoor
open Go.RowKit
mutual
/-- is a node neither too deep nor of too many? g: how many levels more may be; m: how many nodes there were -/
def d_:Nat→Nd→Nat→Bool×Nat
 | 0,_,m=>(false,m+1)
 | g+1,.mk _ _ _ l,m=>if 500<m+1 then (false,m+1) else jk g l (m+1)
def jk:Nat→List Nd→Nat→Bool×Nat
 | _,[],m=>(true,m)
 | g,x::r,m=>if (d_ g x m).1=true then jk g r (d_ g x m).2 else (false,(d_ g x m).2)
end
namespace bH
theorem IU:∀ g x m,(d_ g x m).2≤max m 500+1∧((d_ g x m).1=true→(d_ g x m).2≤500):=by
 intro g;induction g with
 | zero=>intro x m;simp only [d_];exact⟨by omega,fun h=>by cases h⟩
 | succ g ih=>
  have hl:∀ (l:List Nd) (m:Nat),m≤500→(jk g l m).2≤501∧((jk g l m).1=true→(jk g l m).2≤500):=by
   intro l;induction l with
   | nil=>intro m hm;simp only [jk];exact⟨by omega,fun _=>hm⟩
   | cons x r ih2=>
    intro m hm;obtain⟨h1,h2⟩:=ih x m;simp only [jk];split
    ·rename_i h;exact ih2 _ (h2 h)
    ·exact⟨by simp only;omega,fun h=>by cases h⟩
  intro x m;cases x with
  | mk k t n l=>
   simp only [d_];split
   ·exact⟨by simp only;omega,fun h=>by cases h⟩
   ·obtain⟨h1,h2⟩:=hl l (m+1) (by omega)
    exact⟨by omega,h2⟩
theorem zM {g m k:Nat} {l:List Nd} (h:k<l.length):jk g (l.drop k) m=if (d_ g l[k] m).1=true then jk g (l.drop (k+1)) (d_ g l[k] m).2 else (false,(d_ g l[k] m).2):=by
 rw [List.drop_eq_getElem_cons h];simp only [jk]
set_option maxRecDepth 100000 in
set_option maxHeartbeats 4000000 in
theorem OW (g:Nat):∀ (x:Nd) (v:Value) (w:World) (M m:Nat) (d:Int) (H:Nat→Bool),ij (hide H w) x v→H M=true→aJ w M #[.int .i64 (m:Nat)] 3→m≤500→d=17-(g:Int)→g≤17→
  Calls Tryz.prog 49 #[v,.int .i64 d,.pointer (some ⟨M,0,none⟩)] w fun e w'=>e=.returned (.bool (d_ g x m).1)∧aB (fun i=>i=M) w w'∧aJ w' M #[.int .i64 ((d_ g x m).2:Nat)] 3:=by
 induction g with
 | zero=>
  intro x v w M m d H hx hH hM hm hd hg;obtain⟨k,t,n,a,c,cc,rfl⟩:=dF hx;have hM1:=hM.alloc (.cells #[.int .i64 k,.string t,.int .i64 n,.slice a c cc] 24);have hc:=hM1.cell 0;have hf:=hM1.frozen 0;have hl:=hM1.lt;simp at hc
  have hw1:IntKind.i64.wrap ((m:Int)+1)=((m+1:Nat):Int):=by rw [wrap_small _ (by omega) (by omega)];rfl
  have hd2:d=17:=by omega
  subst hd2;have HM:=Z_ hM1;have HC:=Z_ ((aB.refl (fun i=>i=M) w).alloc (.cells #[.int .i64 k,.string t,.int .i64 n,.slice a c cc] 24));simp only [d_];clear hM hM1 hx hd hg;go_enter Tryz.func49,Tryz.ntmps49
  go_wp2_with fail
  go_ret
  exact⟨rfl,aA HC.out 0 _,HM.out.set 0 _⟩
 | succ g ih=>
  intro x v w M m d H hx hH hM hm hd hg;cases x with
  | mk k t n l=>
   rw [dY] at hx;obtain⟨a,cc,rfl,hx1,hx2,hx3,LY⟩:=hx;obtain⟨N,hN⟩:∃ N,l.length=N:=⟨_,rfl⟩;have Uc:N≤9223372036854775807:=by unfold maxLen at hx2;omega
   have HN:=Z_ hN;rw [hN];have hM1:=hM.alloc (.cells #[.int .i64 k,.string t,.int .i64 n,.slice a N cc] 24);have hc:=hM1.cell 0;have hf:=hM1.frozen 0;have hlM:=hM1.lt;simp at hc
   obtain⟨m1,Tu⟩:∃ q,m+1=q:=⟨_,rfl⟩;have hw1:IntKind.i64.wrap ((m:Int)+1)=(m1:Int):=by rw [wrap_small _ (by omega) (by omega)];omega
   have hdd:¬ (16<d):=by omega
   have hdw:IntKind.i64.wrap (d+1)=17-(g:Int):=by rw [wrap_small _ (by omega) (by omega)];omega
   have ax7:wrap64 (d+1)=17-(g:Int):=by unfold wrap64;omega
   have hMw:=hM.lt;have hcm:(w.setCell ⟨M,0,none⟩ (.int .i64 (m1:Nat))).cell? ⟨M,0,none⟩=some (.int .i64 (m1:Nat)):=(hM.set 0 (.int .i64 (m1:Nat))).cell 0;have ax8:decide (16<d)=false:=by simpa using hdd
   clear hd;obtain⟨K,hK⟩:∃ K,w.heap.size=K:=⟨_,rfl⟩;rw [hK] at hMw;obtain⟨R,hR⟩:∃ R,d_ (g+1) (.mk k t n l) m=R:=⟨_,rfl⟩;rw [hR];simp only [d_] at hR;rw [Tu] at hR;have HR:=Z_ hR;have hM2:=(hM.set 0 (.int .i64 (m1:Nat))).alloc (.cells #[.int .i64 k,.string t,.int .i64 n,.slice a N cc] 24);have hK2:=aJ.made (w.setCell ⟨M,0,none⟩ (.int .i64 (m1:Nat))) #[.int .i64 k,.string t,.int .i64 n,.slice a N cc] 24;rw [World.size_setCell,hK] at hK2;have hX:=(aA (aB.refl (fun i=>i=M) w) 0 (.int .i64 (m1:Nat))).alloc (.cells #[.int .i64 k,.string t,.int .i64 n,.slice a N cc] 24);have hK3:=hK2.cell;have Dk:=Z_ hM2;have HX:=Z_ hX;have HI:=Z_ (fun (u:World) (hC:aB (fun i=>i=M) w u)=>LY.keeps (aN hC fun i _ e=>by rw [e];exact hH) fun b o y=>jd (aN hC fun i _ e=>by rw [e];exact hH) b o y)
   clear hM hM1 hR hM2 hX LY hK2 hN;by_cases hb:500<m1
   ·have HR2:=Z_ (show R=(false,m1) by have:=HR.out;rw [if_pos hb] at this;exact this.symm)
    have hb2:(500:Int)<(m1:Int):=by omega
    clear HR;go_enter Tryz.func49,Tryz.ntmps49
    go_wp2_with fail
    go_ret
    rw [HR2.out];exact⟨rfl,HX.out,Dk.out⟩
   ·have HR2:=Z_ (show jk g l m1=R by have:=HR.out;rw [if_neg hb] at this;exact this)
    have hb2:¬ ((500:Int)<(m1:Int)):=by omega
    have hm1:m1≤500:=by omega
    clear HR hb Tu;go_enter Tryz.func49,Tryz.ntmps49
    go_wp2_with fail
    have HI2:=Z_ (HI.out _ HX.out);clear hc hf hlM hw1 hb2 hK3;have Xo:=HX.out;have ZV:=Dk.out;generalize (w.setCell ⟨M,0,none⟩ (.int .i64 (m1:Nat))).alloc (.cells #[.int .i64 k,.string t,.int .i64 n,.slice a N cc] 24)=w1 at *;go_loopw [25] (fun i wr=>∃ q mm:Nat,q≤N∧i=.int .i64 q∧mm≤500∧Hid (jk g (l.drop q) mm=R)∧aB (fun i=>i=M) w wr∧aJ wr M #[.int .i64 (mm:Nat)] 3) (fun i _=>N-(intOf i).toNat)
    case atStart=>exact⟨0,m1,Nat.zero_le _,rfl,hm1,HR2,Xo,ZV⟩
    case round=>
     obtain⟨q,mm,hq,rfl,hmm,hr,hC,hB⟩:=hrel;by_cases hlt:q<N
     ·have kN:q<l.length:=by rw [HN.out];exact hlt
      have hqi:(q:Int)<(N:Int):=by omega
      obtain⟨b,o,rfl,hb,u,hu,hus,hcl⟩:=HI.out wr hC q kN;obtain⟨k1,t1,n1,a1,l1,c1,rfl⟩:=dF hu;have q0:wr.cell? ⟨b,o+q*4,none⟩=some (.int .i64 k1):=(aC H wr).2 _ _ ((hcl 0 (by decide)).trans rfl);have q1:wr.cell? ⟨b,o+q*4+1,none⟩=some (.string t1):=(aC H wr).2 _ _ ((hcl 1 (by decide)).trans rfl);have q2:wr.cell? ⟨b,o+q*4+2,none⟩=some (.int .i64 n1):=(aC H wr).2 _ _ ((hcl 2 (by decide)).trans rfl);have q3:wr.cell? ⟨b,o+q*4+3,none⟩=some (.slice a1 l1 c1):=(aC H wr).2 _ _ ((hcl 3 (by decide)).trans rfl);have hE:=(aB.refl (fun _=>False) wr).alloc (.cells #[.int .i64 k1,.string t1,.int .i64 n1,.slice a1 l1 c1] 24);have HP:=Z_ ((aJ.made wr #[.int .i64 k1,.string t1,.int .i64 n1,.slice a1 l1 c1] 24));have hPc:=HP.out.cell;have HIH:=Z_ (ih l[q] _ (wr.alloc (.cells #[.int .i64 k1,.string t1,.int .i64 n1,.slice a1 l1 c1] 24)) M mm (17-(g:Int)) H (aQ (aN hE fun _ _ h=>h.elim) _ _ hu) hH (hB.ext hE) hmm rfl (by omega))
      have hr2:=hr.out;rw [zM kN] at hr2;have hle:=IU g l[q] mm;generalize d_ g l[q] mm=Q at *;obtain⟨qb,qm⟩:=Q;simp only at hr2 hle HIH;have HR3:=Z_ hr2;have iY:=Z_ hle;have yI:=Z_ (hC.ext hE);clear hr hr2 hcl hu hE hC hB hle;go_wp2_with fail
      refine HIH.out.mono ?_
      rintro e w5 ⟨rfl,hC5,YS⟩;have YT:=Z_ (yI.out.then hC5);have ER:=Z_ YS;clear hC5 YS;cases qb with
      | true=>
       have PY:=Z_ (show jk g (l.drop (q+1)) qm=R by have:=HR3.out;simpa using this);have hqm:=iY.out.2 rfl;clear HR3 iY;go_wp2_with fail
       go_roundw
       case rel=>exact⟨q+1,qm,by omega,by go_num,hqm,PY,YT.out,ER.out⟩
       case measure=>simp [intOf];omega
      | false=>
       have PY:=Z_ (show R=(false,qm) by have:=HR3.out;simpa using this.symm);clear HR3 iY;go_wp2_with fail
       go_ret
       rw [PY.out];exact⟨rfl,YT.out,ER.out⟩
     ·obtain rfl:q=N:=by omega
      have hT:=Z_ (show R=(true,mm) by have:=hr.out;rw [List.drop_of_length_le (by rw [HN.out];exact Nat.le_refl _)] at this;simp only [jk] at this;exact this.symm);clear hr;go_wp2_with fail
      go_ret
      rw [hT.out];exact⟨rfl,hC,hB⟩
end bH
end Go.Proofs.YtpcihajmcejliacGreatDoor
namespace Go.Proofs.YtpcihajmcejliacGreatDoor
open Go.RowKit
mutual
def dL:Nd→Nat
 | .mk _ _ _ l=>gm l+1
def gm:List Nd→Nat
 | []=>0
 | x::r=>dL x+gm r
end
mutual
def Vf:Nd→Nat
 | .mk _ _ _ l=>dpL l+1
def dpL:List Nd→Nat
 | []=>0
 | x::r=>max (Vf x) (dpL r)
end
theorem QN (x:Nd):1≤dL x:=by cases x;simp only [dL];omega
theorem Ze (x:Nd):1≤Vf x:=by cases x;simp only [Vf];omega
theorem vY:∀ g x m,m≤500→((d_ g x m).1=true↔Vf x≤g∧m+dL x≤500)∧((d_ g x m).1=true→(d_ g x m).2=m+dL x):=by
 intro g;induction g with
 | zero=>
  intro x m hm;have:=Ze x;simp only [d_];exact⟨⟨fun h=>(by cases h),fun h=>by omega⟩,fun h=>by cases h⟩
 | succ g ih=>
  have hl:∀ (l:List Nd) (m:Nat),m≤500→((jk g l m).1=true↔dpL l≤g∧m+gm l≤500)∧((jk g l m).1=true→(jk g l m).2=m+gm l):=by
   intro l;induction l with
   | nil=>intro m hm;simp only [jk,dpL,gm];exact⟨⟨fun _=>⟨by omega,by omega⟩,fun _=>trivial⟩,fun _=>rfl⟩
   | cons x r ih2=>
    intro m hm;obtain⟨h1,h2⟩:=ih x m hm;simp only [jk,dpL,gm];by_cases hx:(d_ g x m).1=true
    ·rw [if_pos hx]
     have e:=h2 hx;obtain⟨h3,h4⟩:=h1.1 hx;rw [e];obtain⟨h5,h6⟩:=ih2 (m+dL x) h4;refine⟨h5.trans ⟨fun h=>⟨by omega,by omega⟩,fun h=>⟨by omega,by omega⟩⟩,fun h=>by rw [h6 h];omega⟩
    ·rw [if_neg hx]
     refine⟨⟨fun h=>(by cases h),fun h=>absurd (h1.2 ⟨by omega,by omega⟩) hx⟩,fun h=>by cases h⟩
  intro x m hm;cases x with
  | mk k t n l=>
   simp only [d_,Vf,dL];by_cases h:500<m+1
   ·rw [if_pos h]
    exact⟨⟨fun h=>(by cases h),fun h=>by omega⟩,fun h=>by cases h⟩
   ·rw [if_neg h]
    obtain⟨h1,h2⟩:=hl l (m+1) (by omega);exact⟨h1.trans ⟨fun h=>⟨by omega,by omega⟩,fun h=>⟨by omega,by omega⟩⟩,fun h=>by rw [h2 h];omega⟩
theorem Hg {l:List Nd} {k:Nat} (h:k<l.length):gm (l.drop k)=dL l[k]+gm (l.drop (k+1)):=by
 rw [List.drop_eq_getElem_cons h];simp only [gm]
end Go.Proofs.YtpcihajmcejliacGreatDoor
namespace Go.Proofs.YtpcihajmcejliacGreatDoor
open Go.RowKit
def Nd.kd:Nd→Int
 | .mk k _ _ _=>k
def Nd.tx:Nd→ByteArray
 | .mk _ t _ _=>t
def Nd.nm:Nd→Int
 | .mk _ _ m _=>m
structure Rq (x:Nd):Prop where
 kd:x.kd=2
 nm:x.nm=0
 kids:x.kids=[]
structure RH (x:Nd):Prop where
 kd:x.kd=3
 nm:0≤x.nm∧x.nm≤3
 kids:x.kids=[]∨∃ y,x.kids=[y]∧0≤y.nm∧y.nm<9223372036854775808
structure Bv (x:Nd):Prop where
 kd:x.kd=4
 nm:0≤x.nm∧x.nm≤11
 kids:∃ ps b,x.kids=ps ++ [b]∧∀ p∈ps,0≤p.nm∧p.nm≤1
def vu (x:Nd):Prop:=Rq x∨RH x∨Bv x
def varOf (x:Nd):jw:=⟨x.tx,decide (2≤x.nm % 4),x.nm % 2,match x.kids with
 | []=>0
 | y::_=>y.nm⟩
def rO (x:Nd):aO:=⟨x.tx,decide (2≤x.nm % 4),x.kids.dropLast.map Nd.nm,x.nm % 2,decide (4≤x.nm),x.nm / 8⟩
def He (x:Nd):Bool:=decide (x.kd=2)
def isVar (x:Nd):Bool:=decide (x.kd=3)
def mN (x:Nd):Bool:=decide (x.kd=4)
def iC (l:List Nd):List ByteArray:=(l.filter He).map Nd.tx
def iy (l:List Nd):List jw:=(l.filter isVar).map varOf
def bh (l:List Nd):List aO:=(l.filter mN).map rO
def Nd.key (x:Nd):List UInt8:=x.tx.data.toList
def Du (p:Nat):Nat→List (List UInt8)→List Nd→Int×Nat
 | _,_,[]=>(0,0)
 | j,seen,x::r=>if seen.contains x.key=true then (5,p+1+j) else Du p (j+1) (seen ++ [x.key]) r
def qN (x:Nd) (p:Nat):Int×Nat:=
 if x.kd=3 then match x.kids with
  | []=>(0,0)
  | y::_=>if 1≤y.nm∧y.nm≤64 then (0,0) else (6,p)
 else if 5<x.kids.dropLast.length then (1,p) else Du p 0 [] x.kids.dropLast
def jM (modn:ByteArray):List Nd→List (List UInt8)→List (List UInt8)→Nat→Int×Nat
 | [],_,_,_=>(0,0)
 | x::r,VT,names,p=>
  if x.kd=2 then (if VT.contains x.key=true then (5,p) else if x.tx=modn then (5,p) else if 5≤VT.length then (1,p) else jM modn r (VT ++ [x.key]) names (p+dL x))
  else if names.contains x.key=true then (5,p) else if 20≤names.length then (1,p) else if (qN x p).1=0 then jM modn r VT (names ++ [x.key]) (p+dL x) else qN x p
namespace ofm
open bZ
theorem qy {l r:List Tk} {b:Int} (h:dJ l=.got b r):0≤b∧b≤1:=by
 unfold dJ at h;split at h
 ·injection h with h1 _;omega
 ·obtain⟨_,_,_,h2⟩:=ag h
  injection h2 with h1 _;omega
theorem PE:∀ (n:Nat) (s:ByteArray) (pub:Int) (acc:List Nd) (l:List Tk) (x:Nd) (r:List Tk),(∀ p∈acc,0≤p.nm∧p.nm≤1)→0≤pub→pub≤2→bn n (.params s pub acc) l=.got x r→Bv x:=by
 intro n;induction n with
 | zero=>intro s pub acc l x r _ _ _ h;cases h
 | succ n ih=>
  intro s pub acc l x r hacc h0 h2 h
  have hdone:∀ (acc:List Nd) (l:List Tk),(∀ p∈acc,0≤p.nm∧p.nm≤1)→((dU aV l).bind fun _ l=>(dJ l).bind fun b l=>
    if eY l [iJ]=true then (dJ l.tail).bind fun g l=>(bn n .block l).bind fun x l=>.got (.mk 4 s (pub+b+(4+4*g)) (acc ++ [x])) l
    else (bn n .block l).bind fun x l=>.got (.mk 4 s (pub+b) (acc ++ [x])) l)=Out.got x r→Bv x:=by
   intro acc l hacc h;obtain⟨_,l1,_,h⟩:=ag h;obtain⟨b,l2,hb,h⟩:=ag h;have hb:=qy hb;split at h
   ·obtain⟨g,l3,hg,h⟩:=ag h
    have hg:=qy hg;obtain⟨y,l4,_,h⟩:=ag h;injection h with h1 _
    subst h1;exact⟨rfl,⟨by show 0≤pub+b+(4+4*g);omega,by show pub+b+(4+4*g)≤11;omega⟩,acc,y,rfl,hacc⟩
   ·obtain⟨y,l4,_,h⟩:=ag h
    injection h with h1 _
    subst h1;exact⟨rfl,⟨by show 0≤pub+b;omega,by show pub+b≤11;omega⟩,acc,y,rfl,hacc⟩
  simp only [bn] at h;split at h
  ·exact hdone _ _ hacc h
  ·obtain⟨b,l1,hb,h⟩:=ag h
   obtain⟨p,l2,_,h⟩:=ag h;have hb:=qy hb
   have Ik:∀ q∈acc ++ [Nd.mk 5 p b []],0≤q.nm∧q.nm≤1:=by
    intro q hq;rw [List.mem_append,List.mem_singleton] at hq;rcases hq with hq|rfl
    ·exact hacc q hq
    ·exact hb
   split at h
   ·exact ih _ _ _ _ _ _ Ik h0 h2 h
   ·exact hdone _ _ Ik h
theorem dB {l:List Tk} (h:∀ t∈l,mQ t):∀ t∈l.tail,mQ t:=fun t ht=>h t (List.mem_of_mem_tail ht)
theorem jH {s:ByteArray} {l r:List Tk} {u:Unit} (h:dU s l=.got u r) (ho:∀ t∈l,mQ t):∀ t∈r,mQ t:=by
 unfold dU at h;split at h
 ·injection h with _ h2
  subst h2;exact dB ho
 ·cases h
theorem lW {s:ByteArray} {l r:List Tk} (h:fP l=.got s r) (ho:∀ t∈l,mQ t):∀ t∈r,mQ t:=by
 cases l with
 | nil=>cases h
 | cons t q=>
  simp only [fP] at h;split at h
  ·injection h with _ h2
   subst h2;exact dB ho
  ·cases h
theorem Sv {x:Nd} {l r:List Tk} (h:gu l=.got x r):∃ t,t∈l.head?∧t.kind=2∧x=.mk 15 aF (valOf t.text) []:=by
 cases l with
 | nil=>cases h
 | cons t q=>
  simp only [gu] at h;split at h
  ·rename_i hk
   injection h with h1 _
   exact⟨t,rfl,hk,h1.symm⟩
  ·cases h
theorem qU {b:Int} {l r:List Tk} (h:dJ l=.got b r) (ho:∀ t∈l,mQ t):∀ t∈r,mQ t:=by
 unfold dJ at h;split at h
 ·injection h with _ h2
  subst h2;exact dB ho
 ·obtain⟨_,l2,h1,h2⟩:=ag h
  have:=jH h1 ho;injection h2 with _ h2
  subst h2;exact this
theorem xX {l r:List Tk} (h:r <:+ l) (ho:∀ t∈l,mQ t):∀ t∈r,mQ t:=fun t ht=>ho t (h.subset ht)
theorem tH (l:List Tk):l.tail <:+ l:=List.tail_suffix l
theorem CM {s:ByteArray} {l r:List Tk} {u:Unit} (h:dU s l=.got u r):r <:+ l:=by
 unfold dU at h;split at h
 ·injection h with _ h2
  subst h2;exact tH l
 ·cases h
theorem CN {s:ByteArray} {l r:List Tk} (h:fP l=.got s r):r <:+ l:=by
 cases l with
 | nil=>cases h
 | cons t q=>
  simp only [fP] at h;split at h
  ·injection h with _ h2
   subst h2;exact tH (t::q)
  ·cases h
theorem VU {x:Nd} {l r:List Tk} (h:gu l=.got x r):r <:+ l:=by
 cases l with
 | nil=>cases h
 | cons t q=>
  simp only [gu] at h;split at h
  ·injection h with _ h2
   subst h2;exact tH (t::q)
  ·cases h
theorem VV {b:Int} {l r:List Tk} (h:dJ l=.got b r):r <:+ l:=by
 unfold dJ at h;split at h
 ·injection h with _ h2
  subst h2;exact tH l
 ·obtain⟨_,l2,h1,h2⟩:=ag h
  have:=CM h1;injection h2 with _ h2
  subst h2;exact this
theorem sS {s:ByteArray} {l r:List Tk} (h:iO l=.got s r):r <:+ l:=by
 unfold iO at h;obtain⟨y,q,h1,h2⟩:=ag h;have a1:=CN h1;split at h2
 ·obtain⟨z,q2,h3,h4⟩:=ag h2
  have a2:=CN h3;injection h4 with _ h5
  subst h5;exact a2.trans ((tH q).trans a1)
 ·injection h2 with _ h5
  subst h5;exact a1
theorem TK {l r:List Tk} {x y:Nd} (h:nC x l=.got y r):r <:+ l:=by
 unfold nC at h;obtain⟨z,q2,h3,h4⟩:=ag h;have:=CM h3;injection h4 with _ h5
 subst h5;exact this
def IY {α : Type} (l:List Tk) (o:Out α):Prop:=∀ x r,o=.got x r→r <:+ l
theorem IY.mono {α : Type} {l l1:List Tk} {o:Out α} (h:IY l1 o) (h1:l1 <:+ l):IY l o:=fun x r e=>(h x r e).trans h1
theorem nS {r l:List Tk} (h:r <:+ l):r.tail <:+ l:=(tH r).trans h
theorem Na {α : Type} {l r:List Tk} (x:α) (h:r <:+ l):IY l (.got x r):=fun y q e=>by
 injection e with _ e2
 subst e2;exact h
theorem CO {α β : Type} {l:List Tk} {o:Out α} {f:α→List Tk→Out β} (h:IY l o) (hf:∀ y l1,l1 <:+ l→IY l (f y l1)):IY l (o.bind f):=fun x r e=>by
 obtain⟨y,q,h1,h2⟩:=ag e;exact hf y q (h y q h1) x r h2
theorem FW {α : Type} {l:List Tk} {p:Prop} [Decidable p] {a b:Out α} (ha:IY l a) (hb:IY l b):IY l (if p then a else b):=by
 split
 ·exact ha
 ·exact hb
theorem CU {l l1:List Tk} {s:ByteArray} (h:l1 <:+ l):IY l (dU s l1):=fun _ _ e=>(CM e).trans h
theorem yD {l l1:List Tk} (h:l1 <:+ l):IY l (fP l1):=fun _ _ e=>(CN e).trans h
theorem Aw {l l1:List Tk} (h:l1 <:+ l):IY l (gu l1):=fun _ _ e=>(VU e).trans h
theorem Az {l l1:List Tk} (h:l1 <:+ l):IY l (dJ l1):=fun _ _ e=>(VV e).trans h
theorem En {l l1:List Tk} (h:l1 <:+ l):IY l (iO l1):=fun _ _ e=>(sS e).trans h
theorem CV {l l1:List Tk} {x:Nd} (h:l1 <:+ l):IY l (nC x l1):=fun _ _ e=>(TK e).trans h
theorem IZ (n:Nat):∀ (X:NT) (l:List Tk),IY l (bn n X l):=by
 induction n with
 | zero=>intro X l x r h;cases X<;>cases h
 | succ n ih=>
  intro X l;have h0:l <:+ l:=List.suffix_refl l;cases X<;>simp only [bn]
  case decl=>
   cases eY l [rL]
   ·simp only [Bool.false_eq_true,↓reduceIte]
    repeat' first
     | exact CU (by assumption)
     | exact yD (by assumption)
     | exact Aw (nS (by assumption))
     | exact Az (by assumption)
     | exact CV (by assumption)
     | exact(ih _ _).mono (nS (by assumption))
     | refine FW ?_ ?_
     | refine CO ?_ fun _ _ _=>?_
   ·simp only [↓reduceIte]
    have h1:=nS h0
    repeat' first
     | exact CU (by assumption)
     | exact yD (by assumption)
     | exact Aw (nS (by assumption))
     | exact Az (by assumption)
     | exact CV (by assumption)
     | exact(ih _ _).mono (nS (by assumption))
     | refine FW ?_ ?_
     | refine CO ?_ fun _ _ _=>?_
  all_goals repeat' first
   | exact Na _ (by assumption)
   | exact Na _ (nS (by assumption))
   | exact CU (by assumption)
   | exact yD (by assumption)
   | exact yD (nS (by assumption))
   | exact Aw (by assumption)
   | exact Aw (nS (by assumption))
   | exact Az (by assumption)
   | exact Az (nS (by assumption))
   | exact En (by assumption)
   | exact En (nS (by assumption))
   | exact CV (by assumption)
   | exact(ih _ _).mono (by assumption)
   | exact(ih _ _).mono (nS (by assumption))
   | refine FW ?_ ?_
   | refine CO ?_ fun _ _ _=>?_
theorem VW (n:Nat) (X:NT) (l:List Tk) (x:Nd) (r:List Tk) (h:bn n X l=.got x r):r <:+ l:=IZ n X l x r h
theorem LX (n:Nat) (X:NT) (l:List Tk) (x:Nd) (r:List Tk) (ho:∀ t∈l,mQ t) (h:bn n X l=.got x r):∀ t∈r,mQ t:=xX (VW n X l x r h) ho
theorem VX (n:Nat) (l:List Tk) (x:Nd) (r:List Tk) (ho:∀ t∈l,mQ t) (h:bn n .decl l=.got x r):vu x:=by
 cases n with
 | zero=>cases h
 | succ n=>
  simp only [bn] at h;generalize hl:(if eY l [rL]=true then l.tail else l)=l1 at h;generalize hp:(if eY l [rL]=true then (2:Int) else 0)=pub at h;have hp2:0≤pub∧pub≤2:=by rw [←hp];split<;>omega
  have ho1:∀ t∈l1,mQ t:=by rw [←hl];split;exact dB ho;exact ho
  split at h
  ·cases n with
   | zero=>cases h
   | succ n=>
    simp only [bn] at h;obtain⟨s,l2,_,h⟩:=ag h;obtain⟨_,l3,_,h⟩:=ag h;exact .inr (.inr (PE _ _ _ _ _ _ _ (fun p hp=>by cases hp) hp2.1 hp2.2 h))
  ·obtain⟨b,l2,hb,h⟩:=ag h
   have hb2:=qy hb;have ho2:=qU hb ho1;obtain⟨s,l3,hs,h⟩:=ag h;have ho3:=lW hs ho2
   have SR:∀ (y:Nd) (q:List Tk),nC y q=Out.got x r→x=y:=by
    intro y q h;obtain⟨_,l5,_,h⟩:=ag h;injection h with h1 _
    exact h1.symm
   split at h
   ·obtain⟨y,l4,hy,h⟩:=ag h
    obtain⟨t,ht,hk,rfl⟩:=Sv hy;obtain⟨_,l5,_,h⟩:=ag h;have e:=SR _ _ h;subst e;have hv:=(dB ho3 t (List.mem_of_mem_head? ht)).num hk;refine .inr (.inl ⟨rfl,⟨by show 0≤b+pub;omega,by show b+pub≤3;omega⟩,.inr ⟨_,rfl,by show (0:Int)≤valOf t.text;unfold valOf;omega,by show valOf t.text<_;unfold valOf;omega⟩⟩)
   ·have e:=SR _ _ h
    subst e;exact .inr (.inl ⟨rfl,⟨by show 0≤b+pub;omega,by show b+pub≤3;omega⟩,.inl rfl⟩)
theorem TL:∀ (n:Nat) (s:ByteArray) (acc:List Nd) (l:List Tk) (x:Nd) (r:List Tk),(∀ t∈l,mQ t)→(∀ p∈acc,vu p)→bn n (.decls s acc) l=.got x r→∃ kids,x=.mk 1 s 0 kids∧∀ p∈kids,vu p:=by
 intro n;induction n with
 | zero=>intro s acc l x r _ _ h;cases h
 | succ n ih=>
  intro s acc l x r ho hacc h;simp only [bn] at h;split at h
  ·injection h with h1 _
   exact⟨acc,h1.symm,hacc⟩
  ·obtain⟨y,l2,hy,h⟩:=ag h
   refine ih s (acc ++ [y]) l2 x r ?_ ?_ h
   ·exact LX _ _ _ _ _ ho hy
   ·intro q hq
    rw [List.mem_append,List.mem_singleton] at hq;rcases hq with hq|rfl
    ·exact hacc q hq
    ·exact VX _ _ _ _ ho hy
theorem KT:∀ (n:Nat) (s:ByteArray) (acc:List Nd) (l:List Tk) (x:Nd) (r:List Tk),(∀ t∈l,mQ t)→(∀ p∈acc,vu p)→bn n (.imports s acc) l=.got x r→∃ kids,x=.mk 1 s 0 kids∧∀ p∈kids,vu p:=by
 intro n;induction n with
 | zero=>intro s acc l x r _ _ h;cases h
 | succ n ih=>
  intro s acc l x r ho hacc h;simp only [bn] at h;split at h
  ·obtain⟨y,l2,hy,h⟩:=ag h
   have ho2:=lW hy (dB ho);obtain⟨_,l3,h3,h⟩:=ag h;have ho3:=jH h3 ho2;refine ih s (acc ++ [.mk 2 y 0 []]) l3 x r ho3 ?_ h
   intro q hq;rw [List.mem_append,List.mem_singleton] at hq;rcases hq with hq|rfl
   ·exact hacc q hq
   ·exact .inl ⟨rfl,rfl,rfl⟩
  ·exact TL _ _ _ _ _ _ ho hacc h
theorem OZ (n:Nat) (l:List Tk) (x:Nd) (r:List Tk) (ho:∀ t∈l,mQ t) (h:bn n .module l=.got x r):∃ s kids,x=.mk 1 s 0 kids∧∀ p∈kids,vu p:=by
 cases n with
 | zero=>cases h
 | succ n=>
  simp only [bn] at h;obtain⟨_,l1,h1,h⟩:=ag h;have ho1:=jH h1 ho;obtain⟨s,l2,h2,h⟩:=ag h;have ho2:=lW h2 ho1;obtain⟨_,l3,h3,h⟩:=ag h;obtain⟨kids,h4,h5⟩:=KT _ _ _ _ _ _ (jH h3 ho2) (fun p hp=>by cases hp) h;exact⟨s,kids,h4,h5⟩
end ofm
end Go.Proofs.YtpcihajmcejliacGreatDoor
namespace Go.Proofs.YtpcihajmcejliacGreatDoor
open Go.RowKit
namespace bH
set_option maxRecDepth 100000 in
set_option maxHeartbeats 4000000 in
theorem qj {n:Nat} (ih:∀ m,m≤n→Good m) {W w:World} {S E:Nat} {l:List Tk} (h:bW W w S E l) (hm:dG W) (hne:bn (n+1) (.expr) l≠.out) :
  Calls Tryz.prog 331 #[.pointer (some ⟨S,0,none⟩)] w (gU (VN w.heap.size) W w S E (bn (n+1) (.expr) l)):=by
 obtain⟨T,hT⟩:∃ T,bn (n+1) (.expr) l=T:=⟨_,rfl⟩;rw [hT] at hne ⊢;simp only [bn] at hT;have HT:=Z_ hT;have jO:=Z_ hne;have HM:=Z_ hm;have az:Hid (At W w (w.alloc (.cells #[.int .i64 0,.string ⟨#[]⟩,.int .i64 0,.slice none 0 0] 24)) S E w.heap.size l):=Z_ (At.start h);obtain⟨A,hA⟩:∃ A,w.heap.size=A:=⟨_,rfl⟩;rw [hA] at az;have VY:S<A:=by have:=h.lt;omega
 clear h hm hne hT;go_enter Tryz.func331,Tryz.ntmps331
 go_upto_region 1 with (fail)
 generalize w.alloc (.cells #[.int .i64 0,.string ⟨#[]⟩,.int .i64 0,.slice none 0 0] 24)=u0 at *;have jW:=az.out.lt;obtain⟨B,hB⟩:∃ B,u0.heap.size=B:=⟨_,rfl⟩;rw [hB] at jW;have HN:=Z_ (ih n (Nat.le_refl _) (.bound 0) _ _ az.out.pr HM.out rfl (Nat.zero_le _) (by rw [HT.out];exact jO.out));go_wp2_with fail
 refine HN.out.mono ?_
 rintro e u1 hr;obtain⟨hC,⟨lb,hp,rfl⟩|⟨x1,l1,v1,hp,rfl,hv,hP⟩⟩:=hr.cases (by rw [HT.out];exact jO.out)
 ·have HF:=Z_ (HT.out.symm.trans hp)
  have HC:=Z_ (az.out.aU.then hC);clear hr hp hC;go_wp2_with fail
  exact⟨rfl,gU.fails HC.out HF.out⟩
 replace HT:=Z_ (HT.out.symm.trans hp);replace az:=Z_ (az.out.call hC hP);obtain⟨ka1,ta1,ma1,aa1,na1,ca1,rfl⟩:=dF hv;have VZ:=Z_ hv;have hsz1:u0.heap.size≤u1.heap.size:=hC.size;clear hr hp hC hP hv HN;rw [hB] at VZ;have r0:=az.out.res.cell;have rf:=az.out.res.frozen;have rl:=az.out.res.lt;unfold cG at r0;go_wp2_with fail
 refine cO rfl rfl rfl ((((az.out.res.set 0 _).set 1 _).set 2 _).set 3 _) Tryz.underlying24 rfl (by kernel_rfl) ?_
 exact g_ az.out (below B) (VZ.out) (dX (by omega)) (fun i hi=>dX (by omega)) (HT.out)
set_option maxRecDepth 100000 in
set_option maxHeartbeats 4000000 in
theorem tq {n:Nat} (ih:∀ m,m≤n→Good m) {W w:World} {S E:Nat} {l:List Tk} (h:bW W w S E l) (hm:dG W) (hne:bn (n+1) (.asked) l≠.out) :
  Calls Tryz.prog 334 #[.pointer (some ⟨S,0,none⟩)] w (gU (VN w.heap.size) W w S E (bn (n+1) (.asked) l)):=by
 obtain⟨T,hT⟩:∃ T,bn (n+1) (.asked) l=T:=⟨_,rfl⟩;rw [hT] at hne ⊢;simp only [bn] at hT;have HT:=Z_ hT;have jO:=Z_ hne;have HM:=Z_ hm;have az:Hid (At W w (w.alloc (.cells #[.int .i64 0,.string ⟨#[]⟩,.int .i64 0,.slice none 0 0] 24)) S E w.heap.size l):=Z_ (At.start h);obtain⟨A,hA⟩:∃ A,w.heap.size=A:=⟨_,rfl⟩;rw [hA] at az;have VY:S<A:=by have:=h.lt;omega
 clear h hm hne hT;go_enter Tryz.func334,Tryz.ntmps334
 go_upto_region 1 with (fail)
 generalize w.alloc (.cells #[.int .i64 0,.string ⟨#[]⟩,.int .i64 0,.slice none 0 0] 24)=u0 at *;have HN:=Z_ (dV (az.out.pr.alloc (.cells #[.string dh] 9)) u0.heap.size 1 dh ((aJ.made u0 #[.string dh] 9).cell 0));have h_:=(aB.refl (fun _=>False) u0).alloc (.cells #[.string dh] 9);replace az:=Z_ (az.out.extend h_);clear h_;go_wp2_with fail
 refine HN.out.mono ?_
 rintro e u1 hr;obtain⟨hC,⟨lb,hp,rfl⟩|⟨_,l1,_,hp,rfl,rfl,hP⟩⟩:=hr.cases (eX _ _)
 ·have HF:=Z_ (Out.aH HT.out hp)
  have HC:=Z_ (az.out.aU.then hC);clear hr hp hC;go_wp2_with fail
  exact⟨rfl,gU.fails HC.out HF.out⟩
 replace HT:=Z_ (Out.aI HT.out hp);replace az:=Z_ (az.out.call hC hP);clear hr hp hC hP HN;have jW:=az.out.lt;obtain⟨B,hB⟩:∃ B,u1.heap.size=B:=⟨_,rfl⟩;rw [hB] at jW;have HN:=Z_ (ih n (Nat.le_refl _) (.expr) _ _ az.out.pr HM.out rfl trivial (Out.bI HT.out jO.out));go_wp2_with fail
 refine HN.out.mono ?_
 rintro e u2 hr;obtain⟨hC,⟨lb,hp,rfl⟩|⟨x2,l2,v2,hp,rfl,hv,hP⟩⟩:=hr.cases (Out.bI HT.out jO.out)
 ·have HF:=Z_ (Out.aH HT.out hp)
  have HC:=Z_ (az.out.aU.then hC);clear hr hp hC;go_wp2_with fail
  exact⟨rfl,gU.fails HC.out HF.out⟩
 replace HT:=Z_ (Out.aI HT.out hp);replace az:=Z_ (az.out.call hC hP);obtain⟨ka2,ta2,ma2,aa2,na2,ca2,rfl⟩:=dF hv;have HV2:=Z_ hv;have hsz2:u1.heap.size≤u2.heap.size:=hC.size;clear hr hp hC hP hv HN;rw [hB] at HV2 hsz2;have HL:=Z_ (Loc.start HV2.out (by omega:S<B) hsz2 (c:=#[.int .i64 ka2,.string ta2,.int .i64 ma2,.slice aa2 na2 ca2]) rfl);replace az:=Z_ (az.out.alloc (.cells #[.int .i64 ka2,.string ta2,.int .i64 ma2,.slice aa2 na2 ca2] 24));obtain⟨N,hN⟩:∃ N,u2.heap.size=N:=⟨_,rfl⟩;have hBN:B≤N:=hN▸hsz2
 rw [hN] at HL;go_upto_region 3 with (fail)
 generalize u2.alloc (.cells #[.int .i64 ka2,.string ta2,.int .i64 ma2,.slice aa2 na2 ca2] 24)=u9 at *;have HN:=Z_ (dV (az.out.pr.alloc (.cells #[.string aV] 9)) u9.heap.size 1 aV ((aJ.made u9 #[.string aV] 9).cell 0));have h_:=(aB.refl (fun _=>False) u9).alloc (.cells #[.string aV] 9);replace az:=Z_ (az.out.extend h_);replace HL:=Z_ (HL.out.extend h_);clear h_;go_wp2_with fail
 refine HN.out.mono ?_
 rintro e u3 hr;obtain⟨hC,⟨lb,hp,rfl⟩|⟨_,l3,_,hp,rfl,rfl,hP⟩⟩:=hr.cases (eX _ _)
 ·have HF:=Z_ (Out.aH HT.out hp)
  have HC:=Z_ (az.out.aU.then hC);clear hr hp hC;go_wp2_with fail
  exact⟨rfl,gU.fails HC.out HF.out⟩
 replace HT:=Z_ (Out.aI HT.out hp);replace az:=Z_ (az.out.call hC hP);replace HL:=Z_ (HL.out.call hC);clear hr hp hC hP HN;have hc:=HL.out.nd.cell;simp only [Value.cells] at hc;have r0:=az.out.res.cell;have rf:=az.out.res.frozen;have rl:=az.out.res.lt;unfold cG at r0;go_wp2_with fail
 refine cO rfl rfl rfl ((((az.out.res.set 0 _).set 1 _).set 2 _).set 3 _) Tryz.underlying24 rfl (by kernel_rfl) ?_
 exact g_ az.out (wI B N) (HL.out.dat) (lC (by omega)) (fun i hi=>lC (by omega)) (HT.out.symm)
set_option maxRecDepth 100000 in
set_option maxHeartbeats 4000000 in
theorem v_ {n:Nat} (ih:∀ m,m≤n→Good m) {W w:World} {S E:Nat} {l:List Tk} {s:ByteArray} (h:bW W w S E l) (hm:dG W) (hs:s.size≤7000) (hne:bn (n+1) (.place s) l≠.out) :
  Calls Tryz.prog 335 #[.pointer (some ⟨S,0,none⟩),.string s] w (gU (VN w.heap.size) W w S E (bn (n+1) (.place s) l)):=by
 obtain⟨T,hT⟩:∃ T,bn (n+1) (.place s) l=T:=⟨_,rfl⟩;rw [hT] at hne ⊢;simp only [bn] at hT;have HT:=Z_ hT;have jO:=Z_ hne;have HM:=Z_ hm;have az:Hid (At W w (w.alloc (.cells #[.int .i64 0,.string ⟨#[]⟩,.int .i64 0,.slice none 0 0] 24)) S E w.heap.size l):=Z_ (At.start h);obtain⟨A,hA⟩:∃ A,w.heap.size=A:=⟨_,rfl⟩;rw [hA] at az;have VY:S<A:=by have:=h.lt;omega
 clear h hm hne hT;go_enter Tryz.func335,Tryz.ntmps335
 go_upto_region 1 with (fail)
 generalize w.alloc (.cells #[.int .i64 0,.string ⟨#[]⟩,.int .i64 0,.slice none 0 0] 24)=u0 at *;have HH:=Z_ (eP az.out.pr ov);have iY:=Z_ (fun (h:eY l [ov]=true)=>bZ.bg h);generalize eY l [ov]=R at *;go_wp2_with fail
 refine HH.out.mono ?_
 rintro e u1 ⟨rfl,hC,hP⟩;cases R with
 | false=>
  replace hP:bW W u1 S E l:=by simpa using hP
  have HT0:=HT.out;clear HT;simp only [Bool.false_eq_true,↓reduceIte] at HT0;have HT:=Z_ HT0;clear HT0;replace az:=Z_ (az.out.call hC hP);clear hC hP HH iY;go_wp2_with fail
  refine(fG _ _ _ _ _ _ _).mono ?_
  rintro e u2 ⟨rfl,hE⟩;replace az:=Z_ (az.out.extend hE);have jW:=az.out.lt;clear hE;have r0:=az.out.res.cell;have rf:=az.out.res.frozen;have rl:=az.out.res.lt;unfold cG at r0;go_wp2_with fail
  refine cO rfl rfl rfl ((((az.out.res.set 0 _).set 1 _).set 2 _).set 3 _) Tryz.underlying24 rfl (by kernel_rfl) ?_
  exact g_ az.out (below (A+1)) (oH _ _ _ _ (by omega)) (dX (by omega)) (fun i hi=>dX (by omega)) (HT.out.symm)
 | true=>
  replace hP:bW W u1 S E l.tail:=by simpa using hP
  have HT0:=HT.out;clear HT;simp only [↓reduceIte] at HT0;have HT:=Z_ HT0;clear HT0;replace az:=Z_ (az.out.call hC hP);clear hC hP HH iY;have jW:=az.out.lt;obtain⟨B,hB⟩:∃ B,u1.heap.size=B:=⟨_,rfl⟩;rw [hB] at jW;have HN:=Z_ (ih n (Nat.le_refl _) (.expr) _ _ az.out.pr HM.out rfl trivial (Out.bI HT.out jO.out));go_wp2_with fail
  refine HN.out.mono ?_
  rintro e u4 hr;obtain⟨hC,⟨lb,hp,rfl⟩|⟨x4,l4,v4,hp,rfl,hv,hP⟩⟩:=hr.cases (Out.bI HT.out jO.out)
  ·have HF:=Z_ (Out.aH HT.out hp)
   have HC:=Z_ (az.out.aU.then hC);clear hr hp hC;go_wp2_with fail
   exact⟨rfl,gU.fails HC.out HF.out⟩
  replace HT:=Z_ (Out.aI HT.out hp);replace az:=Z_ (az.out.call hC hP);obtain⟨ka4,ta4,ma4,aa4,na4,ca4,rfl⟩:=dF hv;have Z9:=Z_ hv;have Zf:u1.heap.size≤u4.heap.size:=hC.size;clear hr hp hC hP hv HN;rw [hB] at Z9 Zf;have HL:=Z_ (Loc.start Z9.out (by omega:S<B) Zf (c:=#[.int .i64 ka4,.string ta4,.int .i64 ma4,.slice aa4 na4 ca4]) rfl);replace az:=Z_ (az.out.alloc (.cells #[.int .i64 ka4,.string ta4,.int .i64 ma4,.slice aa4 na4 ca4] 24));obtain⟨N,hN⟩:∃ N,u4.heap.size=N:=⟨_,rfl⟩;have hBN:B≤N:=hN▸Zf
  rw [hN] at HL;go_upto_region 4 with (fail)
  generalize u4.alloc (.cells #[.int .i64 ka4,.string ta4,.int .i64 ma4,.slice aa4 na4 ca4] 24)=u9 at *;have HN:=Z_ (dV (az.out.pr.alloc (.cells #[.string lN] 9)) u9.heap.size 1 lN ((aJ.made u9 #[.string lN] 9).cell 0));have h_:=(aB.refl (fun _=>False) u9).alloc (.cells #[.string lN] 9);replace az:=Z_ (az.out.extend h_);replace HL:=Z_ (HL.out.extend h_);clear h_;go_wp2_with fail
  refine HN.out.mono ?_
  rintro e u5 hr;obtain⟨hC,⟨lb,hp,rfl⟩|⟨_,l5,_,hp,rfl,rfl,hP⟩⟩:=hr.cases (eX _ _)
  ·have HF:=Z_ (Out.aH HT.out hp)
   have HC:=Z_ (az.out.aU.then hC);clear hr hp hC;go_wp2_with fail
   exact⟨rfl,gU.fails HC.out HF.out⟩
  replace HT:=Z_ (Out.aI HT.out hp);replace az:=Z_ (az.out.call hC hP);replace HL:=Z_ (HL.out.call hC);clear hr hp hC hP HN;have hNu:=HL.out.nd.lt;replace HR:=Z_ (FY HL.out.dat (by simp [wI];omega) 17 0 s (by first|omega|decide) (c:=#[.int .i64 ka4,.string ta4,.int .i64 ma4,.slice aa4 na4 ca4]) rfl);have hc:=HL.out.nd.cell;simp only [Value.cells] at hc;have h_:=(aB.refl (fun _=>False) u5).alloc (.cells #[.int .i64 ka4,.string ta4,.int .i64 ma4,.slice aa4 na4 ca4] 24);replace az:=Z_ (az.out.extend h_);clear h_;go_wp2_with fail
  refine(fG _ _ _ _ _ _ _).mono ?_
  rintro e u6 ⟨rfl,hE⟩;replace az:=Z_ (az.out.extend hE);replace HR:=Z_ (aQ (aN hE fun _ _ h=>h.elim) _ _ HR.out);clear hE hc;have r0:=az.out.res.cell;have rf:=az.out.res.frozen;have rl:=az.out.res.lt;unfold cG at r0;go_wp2_with fail
  refine cO rfl rfl rfl ((((az.out.res.set 0 _).set 1 _).set 2 _).set 3 _) Tryz.underlying24 rfl (by kernel_rfl) ?_
  exact g_ az.out (wI B N) (HR.out) (lC (by omega)) (fun i hi=>lC (by omega)) (HT.out.symm)
set_option maxRecDepth 100000 in
set_option maxHeartbeats 4000000 in
theorem S9 (s:ByteArray) (w:World):Calls Tryz.prog 277 #[.string s] w fun e w'=>e=.returned (.tuple #[.int .i64 (lI s).1,.int .i64 (lI s).2])∧w=w':=by
 by_cases h0:s=⟨#[61,61]⟩
 ·subst h0
  go_enter Tryz.func277,Tryz.ntmps277
  go_wp2_with fail
  go_ret2
  exact⟨rfl,rfl⟩
 by_cases h1:s=⟨#[60]⟩
 ·subst h1
  go_enter Tryz.func277,Tryz.ntmps277
  go_wp2_with fail
  go_ret2
  exact⟨rfl,rfl⟩
 by_cases h2:s=⟨#[43]⟩
 ·subst h2
  go_enter Tryz.func277,Tryz.ntmps277
  go_wp2_with fail
  go_ret2
  exact⟨rfl,rfl⟩
 by_cases h3:s=⟨#[45]⟩
 ·subst h3
  go_enter Tryz.func277,Tryz.ntmps277
  go_wp2_with fail
  go_ret2
  exact⟨rfl,rfl⟩
 by_cases h4:s=⟨#[124]⟩
 ·subst h4
  go_enter Tryz.func277,Tryz.ntmps277
  go_wp2_with fail
  go_ret2
  exact⟨rfl,rfl⟩
 by_cases h5:s=⟨#[42]⟩
 ·subst h5
  go_enter Tryz.func277,Tryz.ntmps277
  go_wp2_with fail
  go_ret2
  exact⟨rfl,rfl⟩
 by_cases h6:s=⟨#[47]⟩
 ·subst h6
  go_enter Tryz.func277,Tryz.ntmps277
  go_wp2_with fail
  go_ret2
  exact⟨rfl,rfl⟩
 by_cases h7:s=⟨#[37]⟩
 ·subst h7
  go_enter Tryz.func277,Tryz.ntmps277
  go_wp2_with fail
  go_ret2
  exact⟨rfl,rfl⟩
 by_cases h8:s=⟨#[38]⟩
 ·subst h8
  go_enter Tryz.func277,Tryz.ntmps277
  go_wp2_with fail
  go_ret2
  exact⟨rfl,rfl⟩
 have g0:(s.toList == [61,61])=false:=by
  have:=str_eq (a:=s) (b:=⟨#[61,61]⟩);rw [show ((⟨#[61,61]⟩:ByteArray).toList)=[61,61] by rw [ByteArray.toList_eq]] at this;rw [this];simpa using h0
 have g1:(s.toList == [60])=false:=by
  have:=str_eq (a:=s) (b:=⟨#[60]⟩);rw [show ((⟨#[60]⟩:ByteArray).toList)=[60] by rw [ByteArray.toList_eq]] at this;rw [this];simpa using h1
 have g2:(s.toList == [43])=false:=by
  have:=str_eq (a:=s) (b:=⟨#[43]⟩);rw [show ((⟨#[43]⟩:ByteArray).toList)=[43] by rw [ByteArray.toList_eq]] at this;rw [this];simpa using h2
 have g3:(s.toList == [45])=false:=by
  have:=str_eq (a:=s) (b:=⟨#[45]⟩);rw [show ((⟨#[45]⟩:ByteArray).toList)=[45] by rw [ByteArray.toList_eq]] at this;rw [this];simpa using h3
 have g4:(s.toList == [124])=false:=by
  have:=str_eq (a:=s) (b:=⟨#[124]⟩);rw [show ((⟨#[124]⟩:ByteArray).toList)=[124] by rw [ByteArray.toList_eq]] at this;rw [this];simpa using h4
 have g5:(s.toList == [42])=false:=by
  have:=str_eq (a:=s) (b:=⟨#[42]⟩);rw [show ((⟨#[42]⟩:ByteArray).toList)=[42] by rw [ByteArray.toList_eq]] at this;rw [this];simpa using h5
 have g6:(s.toList == [47])=false:=by
  have:=str_eq (a:=s) (b:=⟨#[47]⟩);rw [show ((⟨#[47]⟩:ByteArray).toList)=[47] by rw [ByteArray.toList_eq]] at this;rw [this];simpa using h6
 have g7:(s.toList == [37])=false:=by
  have:=str_eq (a:=s) (b:=⟨#[37]⟩);rw [show ((⟨#[37]⟩:ByteArray).toList)=[37] by rw [ByteArray.toList_eq]] at this;rw [this];simpa using h7
 have g8:(s.toList == [38])=false:=by
  have:=str_eq (a:=s) (b:=⟨#[38]⟩);rw [show ((⟨#[38]⟩:ByteArray).toList)=[38] by rw [ByteArray.toList_eq]] at this;rw [this];simpa using h8
 have hT:lI s=(0,-1):=by simp only [lI,if_neg h0,if_neg h1,if_neg h2,if_neg h3,if_neg h4,if_neg h5,if_neg h6,if_neg h7,if_neg h8]
 rw [hT];clear hT h0 h1 h2 h3 h4 h5 h6 h7 h8;go_enter Tryz.func277,Tryz.ntmps277
 go_wp2_with fail
 go_ret2
 exact⟨rfl,rfl⟩
end bH
end Go.Proofs.YtpcihajmcejliacGreatDoor
namespace Go.Proofs.YtpcihajmcejliacGreatDoor
open Go.RowKit
namespace bH
set_option maxRecDepth 100000 in
set_option maxHeartbeats 4000000 in
theorem PK {n:Nat} (ih:∀ m,m≤n→Good m) {W w:World} {S E:Nat} {l:List Tk} (h:bW W w S E l) (hm:dG W) (hne:bn (n+1) (.unary) l≠.out) :
  Calls Tryz.prog 375 #[.pointer (some ⟨S,0,none⟩)] w (gU (VN w.heap.size) W w S E (bn (n+1) (.unary) l)):=by
 obtain⟨T,hT⟩:∃ T,bn (n+1) (.unary) l=T:=⟨_,rfl⟩;rw [hT] at hne ⊢;simp only [bn] at hT;have HT:=Z_ hT;have jO:=Z_ hne;have HM:=Z_ hm;have az:Hid (At W w (w.alloc (.cells #[.int .i64 0,.string ⟨#[]⟩,.int .i64 0,.slice none 0 0] 24)) S E w.heap.size l):=Z_ (At.start h);obtain⟨A,hA⟩:∃ A,w.heap.size=A:=⟨_,rfl⟩;rw [hA] at az;have VY:S<A:=by have:=h.lt;omega
 clear h hm hne hT;go_enter Tryz.func375,Tryz.ntmps375
 go_upto_region 1 with (fail)
 generalize w.alloc (.cells #[.int .i64 0,.string ⟨#[]⟩,.int .i64 0,.slice none 0 0] 24)=u0 at *;have HH:=Z_ (eP az.out.pr pO);have iY:=Z_ (fun (h:eY l [pO]=true)=>bZ.bg h);generalize eY l [pO]=R at *;go_wp2_with fail
 refine HH.out.mono ?_
 rintro e u1 ⟨rfl,hC,hP⟩;cases R with
 | false=>
  replace hP:bW W u1 S E l:=by simpa using hP
  have HT0:=HT.out;clear HT;simp only [Bool.false_eq_true,↓reduceIte] at HT0;have HT:=Z_ HT0;clear HT0;replace az:=Z_ (az.out.call hC hP);clear hC hP HH iY;have HH:=Z_ (eP az.out.pr Ac);have iY:=Z_ (fun (h:eY l [Ac]=true)=>bZ.bg h);generalize eY l [Ac]=R at *;go_wp2_with fail
  refine HH.out.mono ?_
  rintro e u2 ⟨rfl,hC,hP⟩;cases R with
  | false=>
   replace hP:bW W u2 S E l:=by simpa using hP
   have HT0:=HT.out;clear HT;simp only [Bool.false_eq_true,↓reduceIte] at HT0;have HT:=Z_ HT0;clear HT0;replace az:=Z_ (az.out.call hC hP);clear hC hP HH iY
   have HH:=Z_ (y_ (az.out.pr.alloc (.cells #[.string dh] 9)) u2.heap.size [dh] 1 1 rfl (by decide) (fun j hj=>by
    obtain rfl:j=0:=by simpa using hj
    exact(aJ.made u2 #[.string dh] 9).cell 0) (by simp))
   have h_:=(aB.refl (fun _=>False) u2).alloc (.cells #[.string dh] 9);replace az:=Z_ (az.out.extend h_);clear h_;generalize eY l [dh]=R at *;go_wp2_with fail
   refine HH.out.mono ?_
   rintro e u3 ⟨rfl,hE⟩;replace az:=Z_ (az.out.extend hE);clear hE HH;cases R with
   | false=>
    have HT0:=HT.out;clear HT;simp only [Bool.false_eq_true,↓reduceIte] at HT0;have HT:=Z_ HT0;clear HT0;have HH:=Z_ (sO az.out.pr);have hk:=LV E l;generalize xQ E l=tk0 at HH hk;obtain⟨tk,tt,ta⟩:=tk0;simp only at hk;unfold OM at HH;go_wp2_with fail
    refine HH.out.mono ?_
    rintro e u4 ⟨rfl,hE⟩;replace az:=Z_ (az.out.extend hE);have hfi:=J_ (.int .i64 tk) (.string tt) (.int .i64 ta) u4;rw [←hk] at HT;clear hE HH hk;by_cases hk2:tk=2
    ·subst hk2
     have HT0:=HT.out;clear HT;simp only [↓reduceIte] at HT0;have HT:=Z_ HT0;clear HT0;have jW:=az.out.lt;obtain⟨B,hB⟩:∃ B,u4.heap.size=B:=⟨_,rfl⟩;rw [hB] at jW;have HN:=Z_ (qx az.out.pr);go_wp2_with fail
     refine HN.out.mono ?_
     rintro e u5 hr;obtain⟨hC,⟨lb,hp,rfl⟩|⟨x,l5,v,hp,rfl,hv,hP⟩⟩:=hr.cases (by rw [HT.out];exact jO.out)
     ·have HF:=Z_ (HT.out.symm.trans hp)
      have HC:=Z_ (az.out.aU.then hC);clear hr hp hC;go_wp2_with fail
      exact⟨rfl,gU.fails HC.out HF.out⟩
     replace HT:=Z_ (HT.out.symm.trans hp);replace az:=Z_ (az.out.call hC hP);obtain⟨ka,ta,ma,aa,na,ca,rfl⟩:=dF hv;have HV:=Z_ (show VN _ _ _ _ from hv);clear hr hp hC hP hv HN;rw [hB] at HV;have r0:=az.out.res.cell;have rf:=az.out.res.frozen;have rl:=az.out.res.lt;unfold cG at r0;go_wp2_with fail
     refine cO rfl rfl rfl ((((az.out.res.set 0 _).set 1 _).set 2 _).set 3 _) Tryz.underlying24 rfl (by kernel_rfl) ?_
     exact g_ az.out (below B) (HV.out) (dX (by omega)) (fun i hi=>dX (by omega)) (HT.out)
    ·have HT0:=HT.out
     clear HT;simp only [if_neg hk2] at HT0;have HT:=Z_ HT0;clear HT0;have hk3:(tk == 2)=false:=by simpa using hk2
     have HN:=Z_ (ni az.out.pr HM.out);go_wp2_with fail
     refine HN.out.mono ?_
     rintro e u6 hr;obtain⟨hC,⟨lb,hp,rfl⟩|⟨s6,l6,v,hp,rfl,⟨rfl,hs⟩,hP⟩⟩:=hr.cases (wC _)
     ·have HF:=Z_ (Out.aH HT.out hp)
      have HC:=Z_ (az.out.aU.then hC);clear hr hp hC;go_wp2_with fail
      exact⟨rfl,gU.fails HC.out HF.out⟩
     replace HT:=Z_ (Out.aI HT.out hp);replace az:=Z_ (az.out.call hC hP);have qI:=Z_ hs;clear hr hp hC hP HN;clear hs
     have HH:=Z_ (y_ (az.out.pr.alloc (.cells #[.string dh] 9)) u6.heap.size [dh] 1 1 rfl (by decide) (fun j hj=>by
      obtain rfl:j=0:=by simpa using hj
      exact(aJ.made u6 #[.string dh] 9).cell 0) (by simp))
     have h_:=(aB.refl (fun _=>False) u6).alloc (.cells #[.string dh] 9);replace az:=Z_ (az.out.extend h_);clear h_;generalize eY l6 [dh]=R at *;go_wp2_with fail
     refine HH.out.mono ?_
     rintro e u7 ⟨rfl,hE⟩;replace az:=Z_ (az.out.extend hE);clear hE HH;cases R with
     | false=>
      have HT0:=HT.out;clear HT;simp only [Bool.false_eq_true,↓reduceIte] at HT0;have HT:=Z_ HT0;clear HT0;have jW:=az.out.lt;obtain⟨B,hB⟩:∃ B,u7.heap.size=B:=⟨_,rfl⟩;rw [hB] at jW;have HN:=Z_ (ih n (Nat.le_refl _) (.place s6) _ _ az.out.pr HM.out rfl qI.out (by rw [HT.out];exact jO.out));go_wp2_with fail
      refine HN.out.mono ?_
      rintro e u8 hr;obtain⟨hC,⟨lb,hp,rfl⟩|⟨x8,l8,v8,hp,rfl,hv,hP⟩⟩:=hr.cases (by rw [HT.out];exact jO.out)
      ·have HF:=Z_ (HT.out.symm.trans hp)
       have HC:=Z_ (az.out.aU.then hC);clear hr hp hC;go_wp2_with fail
       exact⟨rfl,gU.fails HC.out HF.out⟩
      replace HT:=Z_ (HT.out.symm.trans hp);replace az:=Z_ (az.out.call hC hP);obtain⟨ka8,ta8,ma8,aa8,na8,ca8,rfl⟩:=dF hv;have HV8:=Z_ hv;have UF:u7.heap.size≤u8.heap.size:=hC.size;clear hr hp hC hP hv HN;rw [hB] at HV8;have r0:=az.out.res.cell;have rf:=az.out.res.frozen;have rl:=az.out.res.lt;unfold cG at r0;go_wp2_with fail
      refine cO rfl rfl rfl ((((az.out.res.set 0 _).set 1 _).set 2 _).set 3 _) Tryz.underlying24 rfl (by kernel_rfl) ?_
      exact g_ az.out (below B) (HV8.out) (dX (by omega)) (fun i hi=>dX (by omega)) (HT.out)
     | true=>
      have HT0:=HT.out;clear HT;simp only [↓reduceIte] at HT0;have HT:=Z_ HT0;clear HT0;have jW:=az.out.lt;obtain⟨B,hB⟩:∃ B,u7.heap.size=B:=⟨_,rfl⟩;rw [hB] at jW;have HN:=Z_ (ih n (Nat.le_refl _) (.call s6) _ _ az.out.pr HM.out rfl qI.out (by rw [HT.out];exact jO.out));go_wp2_with fail
      refine HN.out.mono ?_
      rintro e u9 hr;obtain⟨hC,⟨lb,hp,rfl⟩|⟨x9,l9,v9,hp,rfl,hv,hP⟩⟩:=hr.cases (by rw [HT.out];exact jO.out)
      ·have HF:=Z_ (HT.out.symm.trans hp)
       have HC:=Z_ (az.out.aU.then hC);clear hr hp hC;go_wp2_with fail
       exact⟨rfl,gU.fails HC.out HF.out⟩
      replace HT:=Z_ (HT.out.symm.trans hp);replace az:=Z_ (az.out.call hC hP);obtain⟨ka9,ta9,ma9,aa9,na9,ca9,rfl⟩:=dF hv;have HV9:=Z_ hv;have NL:u7.heap.size≤u9.heap.size:=hC.size;clear hr hp hC hP hv HN;rw [hB] at HV9;have r0:=az.out.res.cell;have rf:=az.out.res.frozen;have rl:=az.out.res.lt;unfold cG at r0;go_wp2_with fail
      refine cO rfl rfl rfl ((((az.out.res.set 0 _).set 1 _).set 2 _).set 3 _) Tryz.underlying24 rfl (by kernel_rfl) ?_
      exact g_ az.out (below B) (HV9.out) (dX (by omega)) (fun i hi=>dX (by omega)) (HT.out)
   | true=>
    have HT0:=HT.out;clear HT;simp only [↓reduceIte] at HT0;have HT:=Z_ HT0;clear HT0;have jW:=az.out.lt;obtain⟨B,hB⟩:∃ B,u3.heap.size=B:=⟨_,rfl⟩;rw [hB] at jW;have HN:=Z_ (ih n (Nat.le_refl _) (.asked) _ _ az.out.pr HM.out rfl trivial (by rw [HT.out];exact jO.out));go_wp2_with fail
    refine HN.out.mono ?_
    rintro e u10 hr;obtain⟨hC,⟨lb,hp,rfl⟩|⟨x10,l10,v10,hp,rfl,hv,hP⟩⟩:=hr.cases (by rw [HT.out];exact jO.out)
    ·have HF:=Z_ (HT.out.symm.trans hp)
     have HC:=Z_ (az.out.aU.then hC);clear hr hp hC;go_wp2_with fail
     exact⟨rfl,gU.fails HC.out HF.out⟩
    replace HT:=Z_ (HT.out.symm.trans hp);replace az:=Z_ (az.out.call hC hP);obtain⟨V3,V4,V5,V6,V7,V8,rfl⟩:=dF hv;have I0:=Z_ hv;have Nc:u3.heap.size≤u10.heap.size:=hC.size;clear hr hp hC hP hv HN;rw [hB] at I0;have r0:=az.out.res.cell;have rf:=az.out.res.frozen;have rl:=az.out.res.lt;unfold cG at r0;go_wp2_with fail
    refine cO rfl rfl rfl ((((az.out.res.set 0 _).set 1 _).set 2 _).set 3 _) Tryz.underlying24 rfl (by kernel_rfl) ?_
    exact g_ az.out (below B) (I0.out) (dX (by omega)) (fun i hi=>dX (by omega)) (HT.out)
  | true=>
   replace hP:bW W u2 S E l.tail:=by simpa using hP
   have HT0:=HT.out;clear HT;simp only [↓reduceIte] at HT0;have HT:=Z_ HT0;clear HT0;replace az:=Z_ (az.out.call hC hP);clear hC hP HH iY;have jW:=az.out.lt;obtain⟨B,hB⟩:∃ B,u2.heap.size=B:=⟨_,rfl⟩;rw [hB] at jW;have HN:=Z_ (ih n (Nat.le_refl _) (.unary) _ _ az.out.pr HM.out rfl trivial (Out.bI HT.out jO.out));go_wp2_with fail
   refine HN.out.mono ?_
   rintro e u12 hr;obtain⟨hC,⟨lb,hp,rfl⟩|⟨x12,l12,v12,hp,rfl,hv,hP⟩⟩:=hr.cases (Out.bI HT.out jO.out)
   ·have HF:=Z_ (Out.aH HT.out hp)
    have HC:=Z_ (az.out.aU.then hC);clear hr hp hC;go_wp2_with fail
    exact⟨rfl,gU.fails HC.out HF.out⟩
   replace HT:=Z_ (Out.aI HT.out hp);replace az:=Z_ (az.out.call hC hP);obtain⟨ak1,ak2,ak3,ak4,ak5,ak6,rfl⟩:=dF hv;have ak7:=Z_ hv;have ak8:u2.heap.size≤u12.heap.size:=hC.size;clear hr hp hC hP hv HN;rw [hB] at ak7 ak8;replace HR:=Z_ (FY ak7.out (by simp [below];omega) 21 0 aF (by decide) (c:=#[.int .i64 ak1,.string ak2,.int .i64 ak3,.slice ak4 ak5 ak6]) rfl);have h_:=(aB.refl (fun _=>False) u12).alloc (.cells #[.int .i64 ak1,.string ak2,.int .i64 ak3,.slice ak4 ak5 ak6] 24);replace az:=Z_ (az.out.extend h_);clear h_;go_wp2_with fail
   refine(fG _ _ _ _ _ _ _).mono ?_
   rintro e u13 ⟨rfl,hE⟩;replace az:=Z_ (az.out.extend hE);replace HR:=Z_ (aQ (aN hE fun _ _ h=>h.elim) _ _ HR.out);clear hE;have r0:=az.out.res.cell;have rf:=az.out.res.frozen;have rl:=az.out.res.lt;unfold cG at r0;go_wp2_with fail
   refine cO rfl rfl rfl ((((az.out.res.set 0 _).set 1 _).set 2 _).set 3 _) Tryz.underlying24 rfl (by kernel_rfl) ?_
   exact g_ az.out (below B) (HR.out) (dX (by omega)) (fun i hi=>dX (by omega)) (HT.out.symm)
 | true=>
  replace hP:bW W u1 S E l.tail:=by simpa using hP
  have HT0:=HT.out;clear HT;simp only [↓reduceIte] at HT0;have HT:=Z_ HT0;clear HT0;replace az:=Z_ (az.out.call hC hP);clear hC hP HH iY;have jW:=az.out.lt;obtain⟨B,hB⟩:∃ B,u1.heap.size=B:=⟨_,rfl⟩;rw [hB] at jW;have HN:=Z_ (ih n (Nat.le_refl _) (.unary) _ _ az.out.pr HM.out rfl trivial (Out.bI HT.out jO.out));go_wp2_with fail
  refine HN.out.mono ?_
  rintro e u15 hr;obtain⟨hC,⟨lb,hp,rfl⟩|⟨x15,l15,v15,hp,rfl,hv,hP⟩⟩:=hr.cases (Out.bI HT.out jO.out)
  ·have HF:=Z_ (Out.aH HT.out hp)
   have HC:=Z_ (az.out.aU.then hC);clear hr hp hC;go_wp2_with fail
   exact⟨rfl,gU.fails HC.out HF.out⟩
  replace HT:=Z_ (Out.aI HT.out hp);replace az:=Z_ (az.out.call hC hP);obtain⟨ak9,ak_,al0,al1,al2,al3,rfl⟩:=dF hv;have al4:=Z_ hv;have al5:u1.heap.size≤u15.heap.size:=hC.size;clear hr hp hC hP hv HN;rw [hB] at al4 al5;replace HR:=Z_ (FY al4.out (by simp [below];omega) 20 0 aF (by decide) (c:=#[.int .i64 ak9,.string ak_,.int .i64 al0,.slice al1 al2 al3]) rfl);have h_:=(aB.refl (fun _=>False) u15).alloc (.cells #[.int .i64 ak9,.string ak_,.int .i64 al0,.slice al1 al2 al3] 24);replace az:=Z_ (az.out.extend h_);clear h_;go_wp2_with fail
  refine(fG _ _ _ _ _ _ _).mono ?_
  rintro e u16 ⟨rfl,hE⟩;replace az:=Z_ (az.out.extend hE);replace HR:=Z_ (aQ (aN hE fun _ _ h=>h.elim) _ _ HR.out);clear hE;have r0:=az.out.res.cell;have rf:=az.out.res.frozen;have rl:=az.out.res.lt;unfold cG at r0;go_wp2_with fail
  refine cO rfl rfl rfl ((((az.out.res.set 0 _).set 1 _).set 2 _).set 3 _) Tryz.underlying24 rfl (by kernel_rfl) ?_
  exact g_ az.out (below B) (HR.out) (dX (by omega)) (fun i hi=>dX (by omega)) (HT.out.symm)
end bH
end Go.Proofs.YtpcihajmcejliacGreatDoor
