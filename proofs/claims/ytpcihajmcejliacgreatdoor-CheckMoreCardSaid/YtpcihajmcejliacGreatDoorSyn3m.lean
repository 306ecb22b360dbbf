/- The walk of syntax.weigh. How large and how deep a node is, in plain Lean. What a module's declarations are, in plain Lean: its face, its imports, the first fault. The walk of the program's parser: expressions. The walk of the program's parser: unary. -/
import Derived.Test.YtpcihajmcejliacGreatDoorSynCm
import Derived.Test.YtpcihajmcejliacGreatDoorLexNumm
import Derived.Test.YtpcihajmcejliacGreatDoorNamem
namespace Go.Proofs.YtpcihajmcejliacGreatDoor
open Go.RowKit
mutual
/-- is a node neither too deep nor of too many? g: how many levels more may be; m: how many nodes there were -/
def eX:Nat→Nd→Nat→Bool×Nat
 | 0,_,m=>(false,m+1)
 | g+1,.mk _ _ _ l,m=>if 500<m+1 then (false,m+1) else iE g l (m+1)
def iE:Nat→List Nd→Nat→Bool×Nat
 | _,[],m=>(true,m)
 | g,x::r,m=>if (eX g x m).1=true then iE g r (eX g x m).2 else (false,(eX g x m).2)
end
namespace bn
theorem JL:∀ g x m,(eX g x m).2≤max m 500+1∧((eX g x m).1=true→(eX g x m).2≤500):=by
 intro g;induction g with
 | zero=>intro x m;simp only [eX];exact⟨by omega,fun h=>by cases h⟩
 | succ g ih=>
  have hl:∀ (l:List Nd) (m:Nat),m≤500→(iE g l m).2≤501∧((iE g l m).1=true→(iE g l m).2≤500):=by
   intro l;induction l with
   | nil=>intro m hm;simp only [iE];exact⟨by omega,fun _=>hm⟩
   | cons x r ih2=>
    intro m hm;obtain⟨h1,h2⟩:=ih x m;simp only [iE];split
    ·rename_i h;exact ih2 _ (h2 h)
    ·exact⟨by simp only;omega,fun h=>by cases h⟩
  intro x m;cases x with
  | mk k t n l=>
   simp only [eX];split
   ·exact⟨by simp only;omega,fun h=>by cases h⟩
   ·obtain⟨h1,h2⟩:=hl l (m+1) (by omega)
    exact⟨by omega,h2⟩
theorem BO {g m k:Nat} {l:List Nd} (h:k<l.length):iE g (l.drop k) m=if (eX g l[k] m).1=true then iE g (l.drop (k+1)) (eX g l[k] m).2 else (false,(eX g l[k] m).2):=by
 rw [List.drop_eq_getElem_cons h];simp only [iE]
set_option maxRecDepth 100000 in
set_option maxHeartbeats 4000000 in
theorem Gp (g:Nat):∀ (x:Nd) (v:Value) (w:World) (M m:Nat) (d:Int) (H:Nat→Bool),fE (hide H w) x v→H M=true→aH w M #[.int .i64 (m:Nat)] 3→m≤500→d=17-(g:Int)→g≤17→
  Calls Tryz.prog 49 #[v,.int .i64 d,.pointer (some ⟨M,0,none⟩)] w fun e w'=>e=.returned (.bool (eX g x m).1)∧aB (fun i=>i=M) w w'∧aH w' M #[.int .i64 ((eX g x m).2:Nat)] 3:=by
 induction g with
 | zero=>
  intro x v w M m d H hx hH hM hm hd hg;obtain⟨k,t,n,a,c,cc,rfl⟩:=bU hx;have hM1:=hM.alloc (.cells #[.int .i64 k,.string t,.int .i64 n,.slice a c cc] 24);have hc:=hM1.cell 0;have hf:=hM1.frozen 0;have hl:=hM1.lt;simp at hc
  have hw1:IntKind.i64.wrap ((m:Int)+1)=((m+1:Nat):Int):=by rw [wrap_small _ (by omega) (by omega)];rfl
  have hd2:d=17:=by omega
  subst hd2;have HM:=Z_ hM1;have HC:=Z_ ((aB.refl (fun i=>i=M) w).alloc (.cells #[.int .i64 k,.string t,.int .i64 n,.slice a c cc] 24));simp only [eX];clear hM hM1 hx hd hg;go_enter Tryz.func49,Tryz.ntmps49
  go_wp2_with fail
  go_ret
  exact⟨rfl,ak HC.out 0 _,HM.out.set 0 _⟩
 | succ g ih=>
  intro x v w M m d H hx hH hM hm hd hg;cases x with
  | mk k t n l=>
   rw [cG] at hx;obtain⟨a,cc,rfl,hx1,hx2,hx3,JD⟩:=hx;obtain⟨N,hN⟩:∃ N,l.length=N:=⟨_,rfl⟩;have XB:N≤9223372036854775807:=by unfold maxLen at hx2;omega
   have HN:=Z_ hN;rw [hN];have hM1:=hM.alloc (.cells #[.int .i64 k,.string t,.int .i64 n,.slice a N cc] 24);have hc:=hM1.cell 0;have hf:=hM1.frozen 0;have hlM:=hM1.lt;simp at hc
   obtain⟨m1,Vx⟩:∃ q,m+1=q:=⟨_,rfl⟩;have hw1:IntKind.i64.wrap ((m:Int)+1)=(m1:Int):=by rw [wrap_small _ (by omega) (by omega)];omega
   have hdd:¬ (16<d):=by omega
   have hdw:IntKind.i64.wrap (d+1)=17-(g:Int):=by rw [wrap_small _ (by omega) (by omega)];omega
   have af4:wrap64 (d+1)=17-(g:Int):=by unfold wrap64;omega
   have hMw:=hM.lt;have hcm:(w.setCell ⟨M,0,none⟩ (.int .i64 (m1:Nat))).cell? ⟨M,0,none⟩=some (.int .i64 (m1:Nat)):=(hM.set 0 (.int .i64 (m1:Nat))).cell 0;have af5:decide (16<d)=false:=by simpa using hdd
   clear hd;obtain⟨K,hK⟩:∃ K,w.heap.size=K:=⟨_,rfl⟩;rw [hK] at hMw;obtain⟨R,hR⟩:∃ R,eX (g+1) (.mk k t n l) m=R:=⟨_,rfl⟩;rw [hR];simp only [eX] at hR;rw [Vx] at hR;have HR:=Z_ hR;have hM2:=(hM.set 0 (.int .i64 (m1:Nat))).alloc (.cells #[.int .i64 k,.string t,.int .i64 n,.slice a N cc] 24);have hK2:=aH.made (w.setCell ⟨M,0,none⟩ (.int .i64 (m1:Nat))) #[.int .i64 k,.string t,.int .i64 n,.slice a N cc] 24;rw [World.size_setCell,hK] at hK2;have hX:=(ak (aB.refl (fun i=>i=M) w) 0 (.int .i64 (m1:Nat))).alloc (.cells #[.int .i64 k,.string t,.int .i64 n,.slice a N cc] 24);have hK3:=hK2.cell;have Ae:=Z_ hM2;have HX:=Z_ hX;have HI:=Z_ (fun (u:World) (hC:aB (fun i=>i=M) w u)=>JD.keeps (aC hC fun i _ e=>by rw [e];exact hH) fun b o y=>fL (aC hC fun i _ e=>by rw [e];exact hH) b o y)
   clear hM hM1 hR hM2 hX JD hK2 hN;by_cases hb:500<m1
   ·have HR2:=Z_ (show R=(false,m1) by have:=HR.out;rw [if_pos hb] at this;exact this.symm)
    have hb2:(500:Int)<(m1:Int):=by omega
    clear HR;go_enter Tryz.func49,Tryz.ntmps49
    go_wp2_with fail
    go_ret
    rw [HR2.out];exact⟨rfl,HX.out,Ae.out⟩
   ·have HR2:=Z_ (show iE g l m1=R by have:=HR.out;rw [if_neg hb] at this;exact this)
    have hb2:¬ ((500:Int)<(m1:Int)):=by omega
    have hm1:m1≤500:=by omega
    clear HR hb Vx;go_enter Tryz.func49,Tryz.ntmps49
    go_wp2_with fail
    have ZT:=Z_ (HI.out _ HX.out);clear hc hf hlM hw1 hb2 hK3;have hX9:=HX.out;have XF:=Ae.out;generalize (w.setCell ⟨M,0,none⟩ (.int .i64 (m1:Nat))).alloc (.cells #[.int .i64 k,.string t,.int .i64 n,.slice a N cc] 24)=w1 at *;go_loopw [25] (fun i wr=>∃ q mm:Nat,q≤N∧i=.int .i64 q∧mm≤500∧Hid (iE g (l.drop q) mm=R)∧aB (fun i=>i=M) w wr∧aH wr M #[.int .i64 (mm:Nat)] 3) (fun i _=>N-(intOf i).toNat)
    case atStart=>exact⟨0,m1,Nat.zero_le _,rfl,hm1,HR2,hX9,XF⟩
    case round=>
     obtain⟨q,mm,hq,rfl,hmm,hr,hC,hB⟩:=hrel;by_cases hlt:q<N
     ·have kN:q<l.length:=by rw [HN.out];exact hlt
      have hqi:(q:Int)<(N:Int):=by omega
      obtain⟨b,o,rfl,hb,u,hu,hus,hcl⟩:=HI.out wr hC q kN;obtain⟨k1,t1,n1,a1,l1,c1,rfl⟩:=bU hu;have q0:wr.cell? ⟨b,o+q*4,none⟩=some (.int .i64 k1):=(az H wr).2 _ _ ((hcl 0 (by decide)).trans rfl);have q1:wr.cell? ⟨b,o+q*4+1,none⟩=some (.string t1):=(az H wr).2 _ _ ((hcl 1 (by decide)).trans rfl);have q2:wr.cell? ⟨b,o+q*4+2,none⟩=some (.int .i64 n1):=(az H wr).2 _ _ ((hcl 2 (by decide)).trans rfl);have q3:wr.cell? ⟨b,o+q*4+3,none⟩=some (.slice a1 l1 c1):=(az H wr).2 _ _ ((hcl 3 (by decide)).trans rfl);have hE:=(aB.refl (fun _=>False) wr).alloc (.cells #[.int .i64 k1,.string t1,.int .i64 n1,.slice a1 l1 c1] 24);have HP:=Z_ ((aH.made wr #[.int .i64 k1,.string t1,.int .i64 n1,.slice a1 l1 c1] 24));have hPc:=HP.out.cell;have HIH:=Z_ (ih l[q] _ (wr.alloc (.cells #[.int .i64 k1,.string t1,.int .i64 n1,.slice a1 l1 c1] 24)) M mm (17-(g:Int)) H (aJ (aC hE fun _ _ h=>h.elim) _ _ hu) hH (hB.ext hE) hmm rfl (by omega))
      have hr2:=hr.out;rw [BO kN] at hr2;have hle:=JL g l[q] mm;generalize eX g l[q] mm=Q at *;obtain⟨qb,qm⟩:=Q;simp only at hr2 hle HIH;have HR3:=Z_ hr2;have gI:=Z_ hle;have wV:=Z_ (hC.ext hE);clear hr hr2 hcl hu hE hC hB hle;go_wp2_with fail
      refine HIH.out.mono ?_
      rintro e w5 ⟨rfl,hC5,X6⟩;have X7:=Z_ (wV.out.then hC5);have GL:=Z_ X6;clear hC5 X6;cases qb with
      | true=>
       have NR:=Z_ (show iE g (l.drop (q+1)) qm=R by have:=HR3.out;simpa using this);have hqm:=gI.out.2 rfl;clear HR3 gI;go_wp2_with fail
       go_roundw
       case rel=>exact⟨q+1,qm,by omega,by go_num,hqm,NR,X7.out,GL.out⟩
       case measure=>simp [intOf];omega
      | false=>
       have NR:=Z_ (show R=(false,qm) by have:=HR3.out;simpa using this.symm);clear HR3 gI;go_wp2_with fail
       go_ret
       rw [NR.out];exact⟨rfl,X7.out,GL.out⟩
     ·obtain rfl:q=N:=by omega
      have hT:=Z_ (show R=(true,mm) by have:=hr.out;rw [List.drop_of_length_le (by rw [HN.out];exact Nat.le_refl _)] at this;simp only [iE] at this;exact this.symm);clear hr;go_wp2_with fail
      go_ret
      rw [hT.out];exact⟨rfl,hC,hB⟩
end bn
end Go.Proofs.YtpcihajmcejliacGreatDoor
namespace Go.Proofs.YtpcihajmcejliacGreatDoor
open Go.RowKit
mutual
def fP:Nd→Nat
 | .mk _ _ _ l=>kJ l+1
def kJ:List Nd→Nat
 | []=>0
 | x::r=>fP x+kJ r
end
mutual
def Si:Nd→Nat
 | .mk _ _ _ l=>Vy l+1
def Vy:List Nd→Nat
 | []=>0
 | x::r=>max (Si x) (Vy r)
end
theorem Ic (x:Nd):1≤fP x:=by cases x;simp only [fP];omega
theorem QA (x:Nd):1≤Si x:=by cases x;simp only [Si];omega
theorem xX:∀ g x m,m≤500→((eX g x m).1=true↔Si x≤g∧m+fP x≤500)∧((eX g x m).1=true→(eX g x m).2=m+fP x):=by
 intro g;induction g with
 | zero=>
  intro x m hm;have:=QA x;simp only [eX];exact⟨⟨fun h=>(by cases h),fun h=>by omega⟩,fun h=>by cases h⟩
 | succ g ih=>
  have hl:∀ (l:List Nd) (m:Nat),m≤500→((iE g l m).1=true↔Vy l≤g∧m+kJ l≤500)∧((iE g l m).1=true→(iE g l m).2=m+kJ l):=by
   intro l;induction l with
   | nil=>intro m hm;simp only [iE,Vy,kJ];exact⟨⟨fun _=>⟨by omega,by omega⟩,fun _=>trivial⟩,fun _=>rfl⟩
   | cons x r ih2=>
    intro m hm;obtain⟨h1,h2⟩:=ih x m hm;simp only [iE,Vy,kJ];by_cases hx:(eX g x m).1=true
    ·rw [if_pos hx]
     have e:=h2 hx;obtain⟨h3,h4⟩:=h1.1 hx;rw [e];obtain⟨h5,h6⟩:=ih2 (m+fP x) h4;refine⟨h5.trans ⟨fun h=>⟨by omega,by omega⟩,fun h=>⟨by omega,by omega⟩⟩,fun h=>by rw [h6 h];omega⟩
    ·rw [if_neg hx]
     refine⟨⟨fun h=>(by cases h),fun h=>absurd (h1.2 ⟨by omega,by omega⟩) hx⟩,fun h=>by cases h⟩
  intro x m hm;cases x with
  | mk k t n l=>
   simp only [eX,Si,fP];by_cases h:500<m+1
   ·rw [if_pos h]
    exact⟨⟨fun h=>(by cases h),fun h=>by omega⟩,fun h=>by cases h⟩
   ·rw [if_neg h]
    obtain⟨h1,h2⟩:=hl l (m+1) (by omega);exact⟨h1.trans ⟨fun h=>⟨by omega,by omega⟩,fun h=>⟨by omega,by omega⟩⟩,fun h=>by rw [h2 h];omega⟩
theorem AO {l:List Nd} {k:Nat} (h:k<l.length):kJ (l.drop k)=fP l[k]+kJ (l.drop (k+1)):=by
 rw [List.drop_eq_getElem_cons h];simp only [kJ]
end Go.Proofs.YtpcihajmcejliacGreatDoor
namespace Go.Proofs.YtpcihajmcejliacGreatDoor
open Go.RowKit
def Nd.kd:Nd→Int
 | .mk k _ _ _=>k
def Nd.tx:Nd→ByteArray
 | .mk _ t _ _=>t
def Nd.nm:Nd→Int
 | .mk _ _ m _=>m
structure IW (x:Nd):Prop where
 kd:x.kd=2
 nm:x.nm=0
 kids:x.kids=[]
structure I8 (x:Nd):Prop where
 kd:x.kd=3
 nm:0≤x.nm∧x.nm≤3
 kids:x.kids=[]∨∃ y,x.kids=[y]∧0≤y.nm∧y.nm<9223372036854775808
structure vK (x:Nd):Prop where
 kd:x.kd=4
 nm:0≤x.nm∧x.nm≤11
 kids:∃ ps b,x.kids=ps ++ [b]∧∀ p∈ps,0≤p.nm∧p.nm≤1
def o5 (x:Nd):Prop:=IW x∨I8 x∨vK x
def varOf (x:Nd):fB:=⟨x.tx,decide (2≤x.nm % 4),x.nm % 2,match x.kids with
 | []=>0
 | y::_=>y.nm⟩
def qI (x:Nd):aI:=⟨x.tx,decide (2≤x.nm % 4),x.kids.dropLast.map Nd.nm,x.nm % 2,decide (4≤x.nm),x.nm / 8⟩
def xE (x:Nd):Bool:=decide (x.kd=2)
def isVar (x:Nd):Bool:=decide (x.kd=3)
def jw (x:Nd):Bool:=decide (x.kd=4)
def dR (l:List Nd):List ByteArray:=(l.filter xE).map Nd.tx
def fH (l:List Nd):List fB:=(l.filter isVar).map varOf
def aY (l:List Nd):List aI:=(l.filter jw).map qI
def Nd.key (x:Nd):List UInt8:=x.tx.data.toList
def DC (p:Nat):Nat→List (List UInt8)→List Nd→Int×Nat
 | _,_,[]=>(0,0)
 | j,seen,x::r=>if seen.contains x.key=true then (5,p+1+j) else DC p (j+1) (seen ++ [x.key]) r
def qA (x:Nd) (p:Nat):Int×Nat:=
 if x.kd=3 then match x.kids with
  | []=>(0,0)
  | y::_=>if 1≤y.nm∧y.nm≤64 then (0,0) else (6,p)
 else if 5<x.kids.dropLast.length then (1,p) else DC p 0 [] x.kids.dropLast
def iw (modn:ByteArray):List Nd→List (List UInt8)→List (List UInt8)→Nat→Int×Nat
 | [],_,_,_=>(0,0)
 | x::r,MO,names,p=>
  if x.kd=2 then (if MO.contains x.key=true then (5,p) else if x.tx=modn then (5,p) else if 5≤MO.length then (1,p) else iw modn r (MO ++ [x.key]) names (p+fP x))
  else if names.contains x.key=true then (5,p) else if 20≤names.length then (1,p) else if (qA x p).1=0 then iw modn r MO (names ++ [x.key]) (p+fP x) else qA x p
namespace ofm
open bC
theorem lG {l r:List Tk} {b:Int} (h:dF l=.got b r):0≤b∧b≤1:=by
 unfold dF at h;split at h
 ·injection h with h1 _;omega
 ·obtain⟨_,_,_,h2⟩:=ag h
  injection h2 with h1 _;omega
theorem Gu:∀ (n:Nat) (s:ByteArray) (dX:Int) (acc:List Nd) (l:List Tk) (x:Nd) (r:List Tk),(∀ p∈acc,0≤p.nm∧p.nm≤1)→0≤dX→dX≤2→bJ n (.params s dX acc) l=.got x r→vK x:=by
 intro n;induction n with
 | zero=>intro s dX acc l x r _ _ _ h;cases h
 | succ n ih=>
  intro s dX acc l x r hacc h0 h2 h
  have hdone:∀ (acc:List Nd) (l:List Tk),(∀ p∈acc,0≤p.nm∧p.nm≤1)→((dU dI l).bind fun _ l=>(dF l).bind fun b l=>
    if fO l [ou]=true then (dF l.tail).bind fun g l=>(bJ n .block l).bind fun x l=>.got (.mk 4 s (dX+b+(4+4*g)) (acc ++ [x])) l
    else (bJ n .block l).bind fun x l=>.got (.mk 4 s (dX+b) (acc ++ [x])) l)=Out.got x r→vK x:=by
   intro acc l hacc h;obtain⟨_,l1,_,h⟩:=ag h;obtain⟨b,l2,hb,h⟩:=ag h;have hb:=lG hb;split at h
   ·obtain⟨g,l3,hg,h⟩:=ag h
    have hg:=lG hg;obtain⟨y,l4,_,h⟩:=ag h;injection h with h1 _
    subst h1;exact⟨rfl,⟨by show 0≤dX+b+(4+4*g);omega,by show dX+b+(4+4*g)≤11;omega⟩,acc,y,rfl,hacc⟩
   ·obtain⟨y,l4,_,h⟩:=ag h
    injection h with h1 _
    subst h1;exact⟨rfl,⟨by show 0≤dX+b;omega,by show dX+b≤11;omega⟩,acc,y,rfl,hacc⟩
  simp only [bJ] at h;split at h
  ·exact hdone _ _ hacc h
  ·obtain⟨b,l1,hb,h⟩:=ag h
   obtain⟨p,l2,_,h⟩:=ag h;have hb:=lG hb
   have BH:∀ q∈acc ++ [Nd.mk 5 p b []],0≤q.nm∧q.nm≤1:=by
    intro q hq;rw [List.mem_append,List.mem_singleton] at hq;rcases hq with hq|rfl
    ·exact hacc q hq
    ·exact hb
   split at h
   ·exact ih _ _ _ _ _ _ BH h0 h2 h
   ·exact hdone _ _ BH h
theorem bT {l:List Tk} (h:∀ t∈l,jm t):∀ t∈l.tail,jm t:=fun t ht=>h t (List.mem_of_mem_tail ht)
theorem gW {s:ByteArray} {l r:List Tk} {u:Unit} (h:dU s l=.got u r) (ho:∀ t∈l,jm t):∀ t∈r,jm t:=by
 unfold dU at h;split at h
 ·injection h with _ h2
  subst h2;exact bT ho
 ·cases h
theorem jg {s:ByteArray} {l r:List Tk} (h:fJ l=.got s r) (ho:∀ t∈l,jm t):∀ t∈r,jm t:=by
 cases l with
 | nil=>cases h
 | cons t q=>
  simp only [fJ] at h;split at h
  ·injection h with _ h2
   subst h2;exact bT ho
  ·cases h
theorem JC {x:Nd} {l r:List Tk} (h:fD l=.got x r):∃ t,t∈l.head?∧t.kind=2∧x=.mk 15 aS (valOf t.text) []:=by
 cases l with
 | nil=>cases h
 | cons t q=>
  simp only [fD] at h;split at h
  ·rename_i hk
   injection h with h1 _
   exact⟨t,rfl,hk,h1.symm⟩
  ·cases h
theorem l_ {b:Int} {l r:List Tk} (h:dF l=.got b r) (ho:∀ t∈l,jm t):∀ t∈r,jm t:=by
 unfold dF at h;split at h
 ·injection h with _ h2
  subst h2;exact bT ho
 ·obtain⟨_,l2,h1,h2⟩:=ag h
  have:=gW h1 ho;injection h2 with _ h2
  subst h2;exact this
theorem rP {l r:List Tk} (h:r <:+ l) (ho:∀ t∈l,jm t):∀ t∈r,jm t:=fun t ht=>ho t (h.subset ht)
theorem nS (l:List Tk):l.tail <:+ l:=List.tail_suffix l
theorem wI {s:ByteArray} {l r:List Tk} {u:Unit} (h:dU s l=.got u r):r <:+ l:=by
 unfold dU at h;split at h
 ·injection h with _ h2
  subst h2;exact nS l
 ·cases h
theorem wJ {s:ByteArray} {l r:List Tk} (h:fJ l=.got s r):r <:+ l:=by
 cases l with
 | nil=>cases h
 | cons t q=>
  simp only [fJ] at h;split at h
  ·injection h with _ h2
   subst h2;exact nS (t::q)
  ·cases h
theorem MP {x:Nd} {l r:List Tk} (h:fD l=.got x r):r <:+ l:=by
 cases l with
 | nil=>cases h
 | cons t q=>
  simp only [fD] at h;split at h
  ·injection h with _ h2
   subst h2;exact nS (t::q)
  ·cases h
theorem MQ {b:Int} {l r:List Tk} (h:dF l=.got b r):r <:+ l:=by
 unfold dF at h;split at h
 ·injection h with _ h2
  subst h2;exact nS l
 ·obtain⟨_,l2,h1,h2⟩:=ag h
  have:=wI h1;injection h2 with _ h2
  subst h2;exact this
theorem nP {s:ByteArray} {l r:List Tk} (h:iL l=.got s r):r <:+ l:=by
 unfold iL at h;obtain⟨y,q,h1,h2⟩:=ag h;have a1:=wJ h1;split at h2
 ·obtain⟨z,q2,h3,h4⟩:=ag h2
  have a2:=wJ h3;injection h4 with _ h5
  subst h5;exact a2.trans ((nS q).trans a1)
 ·injection h2 with _ h5
  subst h5;exact a1
theorem JM {l r:List Tk} {x y:Nd} (h:jY x l=.got y r):r <:+ l:=by
 unfold jY at h;obtain⟨z,q2,h3,h4⟩:=ag h;have:=wI h3;injection h4 with _ h5
 subst h5;exact this
def BP {α : Type} (l:List Tk) (o:Out α):Prop:=∀ x r,o=.got x r→r <:+ l
theorem BP.mono {α : Type} {l l1:List Tk} {o:Out α} (h:BP l1 o) (h1:l1 <:+ l):BP l o:=fun x r e=>(h x r e).trans h1
theorem jF {r l:List Tk} (h:r <:+ l):r.tail <:+ l:=(nS r).trans h
theorem EE {α : Type} {l r:List Tk} (x:α) (h:r <:+ l):BP l (.got x r):=fun y q e=>by
 injection e with _ e2
 subst e2;exact h
theorem wK {α β : Type} {l:List Tk} {o:Out α} {f:α→List Tk→Out β} (h:BP l o) (hf:∀ y l1,l1 <:+ l→BP l (f y l1)):BP l (o.bind f):=fun x r e=>by
 obtain⟨y,q,h1,h2⟩:=ag e;exact hf y q (h y q h1) x r h2
theorem zB {α : Type} {l:List Tk} {p:Prop} [Decidable p] {a b:Out α} (ha:BP l a) (hb:BP l b):BP l (if p then a else b):=by
 split
 ·exact ha
 ·exact hb
theorem wL {l l1:List Tk} {s:ByteArray} (h:l1 <:+ l):BP l (dU s l1):=fun _ _ e=>(wI e).trans h
theorem rQ {l l1:List Tk} (h:l1 <:+ l):BP l (fJ l1):=fun _ _ e=>(wJ e).trans h
theorem uI {l l1:List Tk} (h:l1 <:+ l):BP l (fD l1):=fun _ _ e=>(MP e).trans h
theorem uJ {l l1:List Tk} (h:l1 <:+ l):BP l (dF l1):=fun _ _ e=>(MQ e).trans h
theorem xZ {l l1:List Tk} (h:l1 <:+ l):BP l (iL l1):=fun _ _ e=>(nP e).trans h
theorem wM {l l1:List Tk} {x:Nd} (h:l1 <:+ l):BP l (jY x l1):=fun _ _ e=>(JM e).trans h
theorem BQ (n:Nat):∀ (X:NT) (l:List Tk),BP l (bJ n X l):=by
 induction n with
 | zero=>intro X l x r h;cases X<;>cases h
 | succ n ih=>
  intro X l;have h0:l <:+ l:=List.suffix_refl l;cases X<;>simp only [bJ]
  case decl=>
   cases fO l [rJ]
   ·simp only [Bool.false_eq_true,↓reduceIte]
    repeat' first
     | exact wL (by assumption)
     | exact rQ (by assumption)
     | exact uI (jF (by assumption))
     | exact uJ (by assumption)
     | exact wM (by assumption)
     | exact(ih _ _).mono (jF (by assumption))
     | refine zB ?_ ?_
     | refine wK ?_ fun _ _ _=>?_
   ·simp only [↓reduceIte]
    have h1:=jF h0
    repeat' first
     | exact wL (by assumption)
     | exact rQ (by assumption)
     | exact uI (jF (by assumption))
     | exact uJ (by assumption)
     | exact wM (by assumption)
     | exact(ih _ _).mono (jF (by assumption))
     | refine zB ?_ ?_
     | refine wK ?_ fun _ _ _=>?_
  all_goals repeat' first
   | exact EE _ (by assumption)
   | exact EE _ (jF (by assumption))
   | exact wL (by assumption)
   | exact rQ (by assumption)
   | exact rQ (jF (by assumption))
   | exact uI (by assumption)
   | exact uI (jF (by assumption))
   | exact uJ (by assumption)
   | exact uJ (jF (by assumption))
   | exact xZ (by assumption)
   | exact xZ (jF (by assumption))
   | exact wM (by assumption)
   | exact(ih _ _).mono (by assumption)
   | exact(ih _ _).mono (jF (by assumption))
   | refine zB ?_ ?_
   | refine wK ?_ fun _ _ _=>?_
theorem MR (n:Nat) (X:NT) (l:List Tk) (x:Nd) (r:List Tk) (h:bJ n X l=.got x r):r <:+ l:=BQ n X l x r h
theorem EC (n:Nat) (X:NT) (l:List Tk) (x:Nd) (r:List Tk) (ho:∀ t∈l,jm t) (h:bJ n X l=.got x r):∀ t∈r,jm t:=rP (MR n X l x r h) ho
theorem MV (n:Nat) (l:List Tk) (x:Nd) (r:List Tk) (ho:∀ t∈l,jm t) (h:bJ n .decl l=.got x r):o5 x:=by
 cases n with
 | zero=>cases h
 | succ n=>
  simp only [bJ] at h;generalize hl:(if fO l [rJ]=true then l.tail else l)=l1 at h;generalize hp:(if fO l [rJ]=true then (2:Int) else 0)=dX at h;have hp2:0≤dX∧dX≤2:=by rw [←hp];split<;>omega
  have ho1:∀ t∈l1,jm t:=by rw [←hl];split;exact bT ho;exact ho
  split at h
  ·cases n with
   | zero=>cases h
   | succ n=>
    simp only [bJ] at h;obtain⟨s,l2,_,h⟩:=ag h;obtain⟨_,l3,_,h⟩:=ag h;exact .inr (.inr (Gu _ _ _ _ _ _ _ (fun p hp=>by cases hp) hp2.1 hp2.2 h))
  ·obtain⟨b,l2,hb,h⟩:=ag h
   have hb2:=lG hb;have ho2:=l_ hb ho1;obtain⟨s,l3,hs,h⟩:=ag h;have ho3:=jg hs ho2
   have Oi:∀ (y:Nd) (q:List Tk),jY y q=Out.got x r→x=y:=by
    intro y q h;obtain⟨_,l5,_,h⟩:=ag h;injection h with h1 _
    exact h1.symm
   split at h
   ·obtain⟨y,l4,hy,h⟩:=ag h
    obtain⟨t,ht,hk,rfl⟩:=JC hy;obtain⟨_,l5,_,h⟩:=ag h;have e:=Oi _ _ h;subst e;have hv:=(bT ho3 t (List.mem_of_mem_head? ht)).num hk;refine .inr (.inl ⟨rfl,⟨by show 0≤b+dX;omega,by show b+dX≤3;omega⟩,.inr ⟨_,rfl,by show (0:Int)≤valOf t.text;unfold valOf;omega,by show valOf t.text<_;unfold valOf;omega⟩⟩)
   ·have e:=Oi _ _ h
    subst e;exact .inr (.inl ⟨rfl,⟨by show 0≤b+dX;omega,by show b+dX≤3;omega⟩,.inl rfl⟩)
theorem JO:∀ (n:Nat) (s:ByteArray) (acc:List Nd) (l:List Tk) (x:Nd) (r:List Tk),(∀ t∈l,jm t)→(∀ p∈acc,o5 p)→bJ n (.decls s acc) l=.got x r→∃ kids,x=.mk 1 s 0 kids∧∀ p∈kids,o5 p:=by
 intro n;induction n with
 | zero=>intro s acc l x r _ _ h;cases h
 | succ n ih=>
  intro s acc l x r ho hacc h;simp only [bJ] at h;split at h
  ·injection h with h1 _
   exact⟨acc,h1.symm,hacc⟩
  ·obtain⟨y,l2,hy,h⟩:=ag h
   refine ih s (acc ++ [y]) l2 x r ?_ ?_ h
   ·exact EC _ _ _ _ _ ho hy
   ·intro q hq
    rw [List.mem_append,List.mem_singleton] at hq;rcases hq with hq|rfl
    ·exact hacc q hq
    ·exact MV _ _ _ _ ho hy
theorem DD:∀ (n:Nat) (s:ByteArray) (acc:List Nd) (l:List Tk) (x:Nd) (r:List Tk),(∀ t∈l,jm t)→(∀ p∈acc,o5 p)→bJ n (.imports s acc) l=.got x r→∃ kids,x=.mk 1 s 0 kids∧∀ p∈kids,o5 p:=by
 intro n;induction n with
 | zero=>intro s acc l x r _ _ h;cases h
 | succ n ih=>
  intro s acc l x r ho hacc h;simp only [bJ] at h;split at h
  ·obtain⟨y,l2,hy,h⟩:=ag h
   have ho2:=jg hy (bT ho);obtain⟨_,l3,h3,h⟩:=ag h;have ho3:=gW h3 ho2;refine ih s (acc ++ [.mk 2 y 0 []]) l3 x r ho3 ?_ h
   intro q hq;rw [List.mem_append,List.mem_singleton] at hq;rcases hq with hq|rfl
   ·exact hacc q hq
   ·exact .inl ⟨rfl,rfl,rfl⟩
  ·exact JO _ _ _ _ _ _ ho hacc h
theorem Gs (n:Nat) (l:List Tk) (x:Nd) (r:List Tk) (ho:∀ t∈l,jm t) (h:bJ n .module l=.got x r):∃ s kids,x=.mk 1 s 0 kids∧∀ p∈kids,o5 p:=by
 cases n with
 | zero=>cases h
 | succ n=>
  simp only [bJ] at h;obtain⟨_,l1,h1,h⟩:=ag h;have ho1:=gW h1 ho;obtain⟨s,l2,h2,h⟩:=ag h;have ho2:=jg h2 ho1;obtain⟨_,l3,h3,h⟩:=ag h;obtain⟨kids,h4,h5⟩:=DD _ _ _ _ _ _ (gW h3 ho2) (fun p hp=>by cases hp) h;exact⟨s,kids,h4,h5⟩
end ofm
end Go.Proofs.YtpcihajmcejliacGreatDoor
namespace Go.Proofs.YtpcihajmcejliacGreatDoor
open Go.RowKit
namespace bn
set_option maxRecDepth 100000 in
set_option maxHeartbeats 4000000 in
theorem uY {n:Nat} (ih:∀ m,m≤n→Good m) {W w:World} {S E:Nat} {l:List Tk} (h:bu W w S E l) (hm:dw W) (hne:bJ (n+1) (.expr) l≠.out) :
  Calls Tryz.prog 331 #[.pointer (some ⟨S,0,none⟩)] w (dZ (VN w.heap.size) W w S E (bJ (n+1) (.expr) l)):=by
 obtain⟨T,hT⟩:∃ T,bJ (n+1) (.expr) l=T:=⟨_,rfl⟩;rw [hT] at hne ⊢;simp only [bJ] at hT;have HT:=Z_ hT;have ig:=Z_ hne;have HM:=Z_ hm;have aA:Hid (At W w (w.alloc (.cells #[.int .i64 0,.string ⟨#[]⟩,.int .i64 0,.slice none 0 0] 24)) S E w.heap.size l):=Z_ (At.start h);obtain⟨A,hA⟩:∃ A,w.heap.size=A:=⟨_,rfl⟩;rw [hA] at aA;have MW:S<A:=by have:=h.lt;omega
 clear h hm hne hT;go_enter Tryz.func331,Tryz.ntmps331
 go_upto_region 1 with (fail)
 generalize w.alloc (.cells #[.int .i64 0,.string ⟨#[]⟩,.int .i64 0,.slice none 0 0] 24)=u0 at *;have iC:=aA.out.lt;obtain⟨B,hB⟩:∃ B,u0.heap.size=B:=⟨_,rfl⟩;rw [hB] at iC;have HN:=Z_ (ih n (Nat.le_refl _) (.bound 0) _ _ aA.out.pr HM.out rfl (Nat.zero_le _) (by rw [HT.out];exact ig.out));go_wp2_with fail
 refine HN.out.mono ?_
 rintro e u1 hr;obtain⟨hC,⟨lb,hp,rfl⟩|⟨x1,l1,v1,hp,rfl,hv,hP⟩⟩:=hr.cases (by rw [HT.out];exact ig.out)
 ·have HF:=Z_ (HT.out.symm.trans hp)
  have HC:=Z_ (aA.out.aO.then hC);clear hr hp hC;go_wp2_with fail
  exact⟨rfl,dZ.fails HC.out HF.out⟩
 replace HT:=Z_ (HT.out.symm.trans hp);replace aA:=Z_ (aA.out.call hC hP);obtain⟨ka1,Sm,Sr,Su,Sv,ca1,rfl⟩:=bU hv;have MX:=Z_ hv;have hsz1:u0.heap.size≤u1.heap.size:=hC.size;clear hr hp hC hP hv HN;rw [hB] at MX;have r0:=aA.out.res.cell;have rf:=aA.out.res.frozen;have rl:=aA.out.res.lt;unfold bQ at r0;go_wp2_with fail
 refine bD rfl rfl rfl ((((aA.out.res.set 0 _).set 1 _).set 2 _).set 3 _) Tryz.underlying24 rfl (by kernel_rfl) ?_
 exact eH aA.out (below B) (MX.out) (cE (by omega)) (fun i hi=>cE (by omega)) (HT.out)
set_option maxRecDepth 100000 in
set_option maxHeartbeats 4000000 in
theorem Gv {n:Nat} (ih:∀ m,m≤n→Good m) {W w:World} {S E:Nat} {l:List Tk} (h:bu W w S E l) (hm:dw W) (hne:bJ (n+1) (.asked) l≠.out) :
  Calls Tryz.prog 334 #[.pointer (some ⟨S,0,none⟩)] w (dZ (VN w.heap.size) W w S E (bJ (n+1) (.asked) l)):=by
 obtain⟨T,hT⟩:∃ T,bJ (n+1) (.asked) l=T:=⟨_,rfl⟩;rw [hT] at hne ⊢;simp only [bJ] at hT;have HT:=Z_ hT;have ig:=Z_ hne;have HM:=Z_ hm;have aA:Hid (At W w (w.alloc (.cells #[.int .i64 0,.string ⟨#[]⟩,.int .i64 0,.slice none 0 0] 24)) S E w.heap.size l):=Z_ (At.start h);obtain⟨A,hA⟩:∃ A,w.heap.size=A:=⟨_,rfl⟩;rw [hA] at aA;have MW:S<A:=by have:=h.lt;omega
 clear h hm hne hT;go_enter Tryz.func334,Tryz.ntmps334
 go_upto_region 1 with (fail)
 generalize w.alloc (.cells #[.int .i64 0,.string ⟨#[]⟩,.int .i64 0,.slice none 0 0] 24)=u0 at *;have HN:=Z_ (cg (aA.out.pr.alloc (.cells #[.string iz] 9)) u0.heap.size 1 iz ((aH.made u0 #[.string iz] 9).cell 0));have eM:=(aB.refl (fun _=>False) u0).alloc (.cells #[.string iz] 9);replace aA:=Z_ (aA.out.extend eM);clear eM;go_wp2_with fail
 refine HN.out.mono ?_
 rintro e u1 hr;obtain⟨hC,⟨lb,hp,rfl⟩|⟨_,l1,_,hp,rfl,rfl,hP⟩⟩:=hr.cases (dh _ _)
 ·have HF:=Z_ (Out.aF HT.out hp)
  have HC:=Z_ (aA.out.aO.then hC);clear hr hp hC;go_wp2_with fail
  exact⟨rfl,dZ.fails HC.out HF.out⟩
 replace HT:=Z_ (Out.aG HT.out hp);replace aA:=Z_ (aA.out.call hC hP);clear hr hp hC hP HN;have iC:=aA.out.lt;obtain⟨B,hB⟩:∃ B,u1.heap.size=B:=⟨_,rfl⟩;rw [hB] at iC;have HN:=Z_ (ih n (Nat.le_refl _) (.expr) _ _ aA.out.pr HM.out rfl trivial (Out.bg HT.out ig.out));go_wp2_with fail
 refine HN.out.mono ?_
 rintro e u2 hr;obtain⟨hC,⟨lb,hp,rfl⟩|⟨x2,l2,v2,hp,rfl,hv,hP⟩⟩:=hr.cases (Out.bg HT.out ig.out)
 ·have HF:=Z_ (Out.aF HT.out hp)
  have HC:=Z_ (aA.out.aO.then hC);clear hr hp hC;go_wp2_with fail
  exact⟨rfl,dZ.fails HC.out HF.out⟩
 replace HT:=Z_ (Out.aG HT.out hp);replace aA:=Z_ (aA.out.call hC hP);obtain⟨ka2,ta2,ma2,aa2,na2,ca2,rfl⟩:=bU hv;have HV2:=Z_ hv;have hsz2:u1.heap.size≤u2.heap.size:=hC.size;clear hr hp hC hP hv HN;rw [hB] at HV2 hsz2;have HL:=Z_ (Loc.start HV2.out (by omega:S<B) hsz2 (c:=#[.int .i64 ka2,.string ta2,.int .i64 ma2,.slice aa2 na2 ca2]) rfl);replace aA:=Z_ (aA.out.alloc (.cells #[.int .i64 ka2,.string ta2,.int .i64 ma2,.slice aa2 na2 ca2] 24));obtain⟨N,hN⟩:∃ N,u2.heap.size=N:=⟨_,rfl⟩;have hBN:B≤N:=hN▸hsz2
 rw [hN] at HL;go_upto_region 3 with (fail)
 generalize u2.alloc (.cells #[.int .i64 ka2,.string ta2,.int .i64 ma2,.slice aa2 na2 ca2] 24)=u9 at *;have HN:=Z_ (cg (aA.out.pr.alloc (.cells #[.string dI] 9)) u9.heap.size 1 dI ((aH.made u9 #[.string dI] 9).cell 0));have eM:=(aB.refl (fun _=>False) u9).alloc (.cells #[.string dI] 9);replace aA:=Z_ (aA.out.extend eM);replace HL:=Z_ (HL.out.extend eM);clear eM;go_wp2_with fail
 refine HN.out.mono ?_
 rintro e u3 hr;obtain⟨hC,⟨lb,hp,rfl⟩|⟨_,l3,_,hp,rfl,rfl,hP⟩⟩:=hr.cases (dh _ _)
 ·have HF:=Z_ (Out.aF HT.out hp)
  have HC:=Z_ (aA.out.aO.then hC);clear hr hp hC;go_wp2_with fail
  exact⟨rfl,dZ.fails HC.out HF.out⟩
 replace HT:=Z_ (Out.aG HT.out hp);replace aA:=Z_ (aA.out.call hC hP);replace HL:=Z_ (HL.out.call hC);clear hr hp hC hP HN;have hc:=HL.out.nd.cell;simp only [Value.cells] at hc;have r0:=aA.out.res.cell;have rf:=aA.out.res.frozen;have rl:=aA.out.res.lt;unfold bQ at r0;go_wp2_with fail
 refine bD rfl rfl rfl ((((aA.out.res.set 0 _).set 1 _).set 2 _).set 3 _) Tryz.underlying24 rfl (by kernel_rfl) ?_
 exact eH aA.out (qp B N) (HL.out.dat) (iR (by omega)) (fun i hi=>iR (by omega)) (HT.out.symm)
set_option maxRecDepth 100000 in
set_option maxHeartbeats 4000000 in
theorem Gw {n:Nat} (ih:∀ m,m≤n→Good m) {W w:World} {S E:Nat} {l:List Tk} {s:ByteArray} (h:bu W w S E l) (hm:dw W) (hs:s.size≤7000) (hne:bJ (n+1) (.place s) l≠.out) :
  Calls Tryz.prog 335 #[.pointer (some ⟨S,0,none⟩),.string s] w (dZ (VN w.heap.size) W w S E (bJ (n+1) (.place s) l)):=by
 obtain⟨T,hT⟩:∃ T,bJ (n+1) (.place s) l=T:=⟨_,rfl⟩;rw [hT] at hne ⊢;simp only [bJ] at hT;have HT:=Z_ hT;have ig:=Z_ hne;have HM:=Z_ hm;have aA:Hid (At W w (w.alloc (.cells #[.int .i64 0,.string ⟨#[]⟩,.int .i64 0,.slice none 0 0] 24)) S E w.heap.size l):=Z_ (At.start h);obtain⟨A,hA⟩:∃ A,w.heap.size=A:=⟨_,rfl⟩;rw [hA] at aA;have MW:S<A:=by have:=h.lt;omega
 clear h hm hne hT;go_enter Tryz.func335,Tryz.ntmps335
 go_upto_region 1 with (fail)
 generalize w.alloc (.cells #[.int .i64 0,.string ⟨#[]⟩,.int .i64 0,.slice none 0 0] 24)=u0 at *;have HH:=Z_ (cZ aA.out.pr vZ);have gI:=Z_ (fun (h:fO l [vZ]=true)=>bC.aU h);generalize fO l [vZ]=R at *;go_wp2_with fail
 refine HH.out.mono ?_
 rintro e u1 ⟨rfl,hC,hP⟩;cases R with
 | false=>
  replace hP:bu W u1 S E l:=by simpa using hP
  have HT0:=HT.out;clear HT;simp only [Bool.false_eq_true,↓reduceIte] at HT0;have HT:=Z_ HT0;clear HT0;replace aA:=Z_ (aA.out.call hC hP);clear hC hP HH gI;go_wp2_with fail
  refine(dG _ _ _ _ _ _ _).mono ?_
  rintro e u2 ⟨rfl,hE⟩;replace aA:=Z_ (aA.out.extend hE);have iC:=aA.out.lt;clear hE;have r0:=aA.out.res.cell;have rf:=aA.out.res.frozen;have rl:=aA.out.res.lt;unfold bQ at r0;go_wp2_with fail
  refine bD rfl rfl rfl ((((aA.out.res.set 0 _).set 1 _).set 2 _).set 3 _) Tryz.underlying24 rfl (by kernel_rfl) ?_
  exact eH aA.out (below (A+1)) (jX _ _ _ _ (by omega)) (cE (by omega)) (fun i hi=>cE (by omega)) (HT.out.symm)
 | true=>
  replace hP:bu W u1 S E l.tail:=by simpa using hP
  have HT0:=HT.out;clear HT;simp only [↓reduceIte] at HT0;have HT:=Z_ HT0;clear HT0;replace aA:=Z_ (aA.out.call hC hP);clear hC hP HH gI;have iC:=aA.out.lt;obtain⟨B,hB⟩:∃ B,u1.heap.size=B:=⟨_,rfl⟩;rw [hB] at iC;have HN:=Z_ (ih n (Nat.le_refl _) (.expr) _ _ aA.out.pr HM.out rfl trivial (Out.bg HT.out ig.out));go_wp2_with fail
  refine HN.out.mono ?_
  rintro e u4 hr;obtain⟨hC,⟨lb,hp,rfl⟩|⟨x4,l4,v4,hp,rfl,hv,hP⟩⟩:=hr.cases (Out.bg HT.out ig.out)
  ·have HF:=Z_ (Out.aF HT.out hp)
   have HC:=Z_ (aA.out.aO.then hC);clear hr hp hC;go_wp2_with fail
   exact⟨rfl,dZ.fails HC.out HF.out⟩
  replace HT:=Z_ (Out.aG HT.out hp);replace aA:=Z_ (aA.out.call hC hP);obtain⟨Vz,VA,VB,VC,VD,VE,rfl⟩:=bU hv;have Sl:=Z_ hv;have QB:u1.heap.size≤u4.heap.size:=hC.size;clear hr hp hC hP hv HN;rw [hB] at Sl QB;have HL:=Z_ (Loc.start Sl.out (by omega:S<B) QB (c:=#[.int .i64 Vz,.string VA,.int .i64 VB,.slice VC VD VE]) rfl);replace aA:=Z_ (aA.out.alloc (.cells #[.int .i64 Vz,.string VA,.int .i64 VB,.slice VC VD VE] 24));obtain⟨N,hN⟩:∃ N,u4.heap.size=N:=⟨_,rfl⟩;have hBN:B≤N:=hN▸QB
  rw [hN] at HL;go_upto_region 4 with (fail)
  generalize u4.alloc (.cells #[.int .i64 Vz,.string VA,.int .i64 VB,.slice VC VD VE] 24)=u9 at *;have HN:=Z_ (cg (aA.out.pr.alloc (.cells #[.string rH] 9)) u9.heap.size 1 rH ((aH.made u9 #[.string rH] 9).cell 0));have eM:=(aB.refl (fun _=>False) u9).alloc (.cells #[.string rH] 9);replace aA:=Z_ (aA.out.extend eM);replace HL:=Z_ (HL.out.extend eM);clear eM;go_wp2_with fail
  refine HN.out.mono ?_
  rintro e u5 hr;obtain⟨hC,⟨lb,hp,rfl⟩|⟨_,l5,_,hp,rfl,rfl,hP⟩⟩:=hr.cases (dh _ _)
  ·have HF:=Z_ (Out.aF HT.out hp)
   have HC:=Z_ (aA.out.aO.then hC);clear hr hp hC;go_wp2_with fail
   exact⟨rfl,dZ.fails HC.out HF.out⟩
  replace HT:=Z_ (Out.aG HT.out hp);replace aA:=Z_ (aA.out.call hC hP);replace HL:=Z_ (HL.out.call hC);clear hr hp hC hP HN;have hNu:=HL.out.nd.lt;replace HR:=Z_ (zC HL.out.dat (by simp [qp];omega) 17 0 s (by first|omega|decide) (c:=#[.int .i64 Vz,.string VA,.int .i64 VB,.slice VC VD VE]) rfl);have hc:=HL.out.nd.cell;simp only [Value.cells] at hc;have eM:=(aB.refl (fun _=>False) u5).alloc (.cells #[.int .i64 Vz,.string VA,.int .i64 VB,.slice VC VD VE] 24);replace aA:=Z_ (aA.out.extend eM);clear eM;go_wp2_with fail
  refine(dG _ _ _ _ _ _ _).mono ?_
  rintro e u6 ⟨rfl,hE⟩;replace aA:=Z_ (aA.out.extend hE);replace HR:=Z_ (aJ (aC hE fun _ _ h=>h.elim) _ _ HR.out);clear hE hc;have r0:=aA.out.res.cell;have rf:=aA.out.res.frozen;have rl:=aA.out.res.lt;unfold bQ at r0;go_wp2_with fail
  refine bD rfl rfl rfl ((((aA.out.res.set 0 _).set 1 _).set 2 _).set 3 _) Tryz.underlying24 rfl (by kernel_rfl) ?_
  exact eH aA.out (qp B N) (HR.out) (iR (by omega)) (fun i hi=>iR (by omega)) (HT.out.symm)
set_option maxRecDepth 100000 in
set_option maxHeartbeats 4000000 in
theorem QD (s:ByteArray) (w:World):Calls Tryz.prog 277 #[.string s] w fun e w'=>e=.returned (.tuple #[.int .i64 (qO s).1,.int .i64 (qO s).2])∧w=w':=by
 by_cases h0:s=⟨#[61,61]⟩
 ·subst h0
  go_enter Tryz.func277,Tryz.ntmps277
  go_wp2_with fail
  go_ret2
  exact⟨rfl,rfl⟩
 by_cases h1:s=⟨#[60]⟩
 ·subst h1
  go_enter Tryz.func277,Tryz.ntmps277
  go_wp2_with fail
  go_ret2
  exact⟨rfl,rfl⟩
 by_cases h2:s=⟨#[43]⟩
 ·subst h2
  go_enter Tryz.func277,Tryz.ntmps277
  go_wp2_with fail
  go_ret2
  exact⟨rfl,rfl⟩
 by_cases h3:s=⟨#[45]⟩
 ·subst h3
  go_enter Tryz.func277,Tryz.ntmps277
  go_wp2_with fail
  go_ret2
  exact⟨rfl,rfl⟩
 by_cases h4:s=⟨#[124]⟩
 ·subst h4
  go_enter Tryz.func277,Tryz.ntmps277
  go_wp2_with fail
  go_ret2
  exact⟨rfl,rfl⟩
 by_cases h5:s=⟨#[42]⟩
 ·subst h5
  go_enter Tryz.func277,Tryz.ntmps277
  go_wp2_with fail
  go_ret2
  exact⟨rfl,rfl⟩
 by_cases h6:s=⟨#[47]⟩
 ·subst h6
  go_enter Tryz.func277,Tryz.ntmps277
  go_wp2_with fail
  go_ret2
  exact⟨rfl,rfl⟩
 by_cases h7:s=⟨#[37]⟩
 ·subst h7
  go_enter Tryz.func277,Tryz.ntmps277
  go_wp2_with fail
  go_ret2
  exact⟨rfl,rfl⟩
 by_cases h8:s=⟨#[38]⟩
 ·subst h8
  go_enter Tryz.func277,Tryz.ntmps277
  go_wp2_with fail
  go_ret2
  exact⟨rfl,rfl⟩
 have g0:(s.toList == [61,61])=false:=by
  have:=str_eq (a:=s) (b:=⟨#[61,61]⟩);rw [show ((⟨#[61,61]⟩:ByteArray).toList)=[61,61] by rw [ByteArray.toList_eq]] at this;rw [this];simpa using h0
 have g1:(s.toList == [60])=false:=by
  have:=str_eq (a:=s) (b:=⟨#[60]⟩);rw [show ((⟨#[60]⟩:ByteArray).toList)=[60] by rw [ByteArray.toList_eq]] at this;rw [this];simpa using h1
 have g2:(s.toList == [43])=false:=by
  have:=str_eq (a:=s) (b:=⟨#[43]⟩);rw [show ((⟨#[43]⟩:ByteArray).toList)=[43] by rw [ByteArray.toList_eq]] at this;rw [this];simpa using h2
 have g3:(s.toList == [45])=false:=by
  have:=str_eq (a:=s) (b:=⟨#[45]⟩);rw [show ((⟨#[45]⟩:ByteArray).toList)=[45] by rw [ByteArray.toList_eq]] at this;rw [this];simpa using h3
 have g4:(s.toList == [124])=false:=by
  have:=str_eq (a:=s) (b:=⟨#[124]⟩);rw [show ((⟨#[124]⟩:ByteArray).toList)=[124] by rw [ByteArray.toList_eq]] at this;rw [this];simpa using h4
 have g5:(s.toList == [42])=false:=by
  have:=str_eq (a:=s) (b:=⟨#[42]⟩);rw [show ((⟨#[42]⟩:ByteArray).toList)=[42] by rw [ByteArray.toList_eq]] at this;rw [this];simpa using h5
 have g6:(s.toList == [47])=false:=by
  have:=str_eq (a:=s) (b:=⟨#[47]⟩);rw [show ((⟨#[47]⟩:ByteArray).toList)=[47] by rw [ByteArray.toList_eq]] at this;rw [this];simpa using h6
 have g7:(s.toList == [37])=false:=by
  have:=str_eq (a:=s) (b:=⟨#[37]⟩);rw [show ((⟨#[37]⟩:ByteArray).toList)=[37] by rw [ByteArray.toList_eq]] at this;rw [this];simpa using h7
 have g8:(s.toList == [38])=false:=by
  have:=str_eq (a:=s) (b:=⟨#[38]⟩);rw [show ((⟨#[38]⟩:ByteArray).toList)=[38] by rw [ByteArray.toList_eq]] at this;rw [this];simpa using h8
 have hT:qO s=(0,-1):=by simp only [qO,if_neg h0,if_neg h1,if_neg h2,if_neg h3,if_neg h4,if_neg h5,if_neg h6,if_neg h7,if_neg h8]
 rw [hT];clear hT h0 h1 h2 h3 h4 h5 h6 h7 h8;go_enter Tryz.func277,Tryz.ntmps277
 go_wp2_with fail
 go_ret2
 exact⟨rfl,rfl⟩
end bn
end Go.Proofs.YtpcihajmcejliacGreatDoor
namespace Go.Proofs.YtpcihajmcejliacGreatDoor
open Go.RowKit
namespace bn
set_option maxRecDepth 100000 in
set_option maxHeartbeats 4000000 in
theorem Gx {n:Nat} (ih:∀ m,m≤n→Good m) {W w:World} {S E:Nat} {l:List Tk} (h:bu W w S E l) (hm:dw W) (hne:bJ (n+1) (.unary) l≠.out) :
  Calls Tryz.prog 375 #[.pointer (some ⟨S,0,none⟩)] w (dZ (VN w.heap.size) W w S E (bJ (n+1) (.unary) l)):=by
 obtain⟨T,hT⟩:∃ T,bJ (n+1) (.unary) l=T:=⟨_,rfl⟩;rw [hT] at hne ⊢;simp only [bJ] at hT;have HT:=Z_ hT;have ig:=Z_ hne;have HM:=Z_ hm;have aA:Hid (At W w (w.alloc (.cells #[.int .i64 0,.string ⟨#[]⟩,.int .i64 0,.slice none 0 0] 24)) S E w.heap.size l):=Z_ (At.start h);obtain⟨A,hA⟩:∃ A,w.heap.size=A:=⟨_,rfl⟩;rw [hA] at aA;have MW:S<A:=by have:=h.lt;omega
 clear h hm hne hT;go_enter Tryz.func375,Tryz.ntmps375
 go_upto_region 1 with (fail)
 generalize w.alloc (.cells #[.int .i64 0,.string ⟨#[]⟩,.int .i64 0,.slice none 0 0] 24)=u0 at *;have HH:=Z_ (cZ aA.out.pr zn);have gI:=Z_ (fun (h:fO l [zn]=true)=>bC.aU h);generalize fO l [zn]=R at *;go_wp2_with fail
 refine HH.out.mono ?_
 rintro e u1 ⟨rfl,hC,hP⟩;cases R with
 | false=>
  replace hP:bu W u1 S E l:=by simpa using hP
  have HT0:=HT.out;clear HT;simp only [Bool.false_eq_true,↓reduceIte] at HT0;have HT:=Z_ HT0;clear HT0;replace aA:=Z_ (aA.out.call hC hP);clear hC hP HH gI;have HH:=Z_ (cZ aA.out.pr LZ);have gI:=Z_ (fun (h:fO l [LZ]=true)=>bC.aU h);generalize fO l [LZ]=R at *;go_wp2_with fail
  refine HH.out.mono ?_
  rintro e u2 ⟨rfl,hC,hP⟩;cases R with
  | false=>
   replace hP:bu W u2 S E l:=by simpa using hP
   have HT0:=HT.out;clear HT;simp only [Bool.false_eq_true,↓reduceIte] at HT0;have HT:=Z_ HT0;clear HT0;replace aA:=Z_ (aA.out.call hC hP);clear hC hP HH gI
   have HH:=Z_ (sW (aA.out.pr.alloc (.cells #[.string iz] 9)) u2.heap.size [iz] 1 1 rfl (by decide) (fun j hj=>by
    obtain rfl:j=0:=by simpa using hj
    exact(aH.made u2 #[.string iz] 9).cell 0) (by simp))
   have eM:=(aB.refl (fun _=>False) u2).alloc (.cells #[.string iz] 9);replace aA:=Z_ (aA.out.extend eM);clear eM;generalize fO l [iz]=R at *;go_wp2_with fail
   refine HH.out.mono ?_
   rintro e u3 ⟨rfl,hE⟩;replace aA:=Z_ (aA.out.extend hE);clear hE HH;cases R with
   | false=>
    have HT0:=HT.out;clear HT;simp only [Bool.false_eq_true,↓reduceIte] at HT0;have HT:=Z_ HT0;clear HT0;have HH:=Z_ (nN aA.out.pr);have hk:=Ew E l;generalize rK E l=tk0 at HH hk;obtain⟨tk,tt,ta⟩:=tk0;simp only at hk;unfold Gh at HH;go_wp2_with fail
    refine HH.out.mono ?_
    rintro e u4 ⟨rfl,hE⟩;replace aA:=Z_ (aA.out.extend hE);have hfi:=Du (.int .i64 tk) (.string tt) (.int .i64 ta) u4;rw [←hk] at HT;clear hE HH hk;by_cases hk2:tk=2
    ·subst hk2
     have HT0:=HT.out;clear HT;simp only [↓reduceIte] at HT0;have HT:=Z_ HT0;clear HT0;have iC:=aA.out.lt;obtain⟨B,hB⟩:∃ B,u4.heap.size=B:=⟨_,rfl⟩;rw [hB] at iC;have HN:=Z_ (lD aA.out.pr);go_wp2_with fail
     refine HN.out.mono ?_
     rintro e u5 hr;obtain⟨hC,⟨lb,hp,rfl⟩|⟨x,l5,v,hp,rfl,hv,hP⟩⟩:=hr.cases (by rw [HT.out];exact ig.out)
     ·have HF:=Z_ (HT.out.symm.trans hp)
      have HC:=Z_ (aA.out.aO.then hC);clear hr hp hC;go_wp2_with fail
      exact⟨rfl,dZ.fails HC.out HF.out⟩
     replace HT:=Z_ (HT.out.symm.trans hp);replace aA:=Z_ (aA.out.call hC hP);obtain⟨ka,ta,ma,aa,na,ca,rfl⟩:=bU hv;have HV:=Z_ (show VN _ _ _ _ from hv);clear hr hp hC hP hv HN;rw [hB] at HV;have r0:=aA.out.res.cell;have rf:=aA.out.res.frozen;have rl:=aA.out.res.lt;unfold bQ at r0;go_wp2_with fail
     refine bD rfl rfl rfl ((((aA.out.res.set 0 _).set 1 _).set 2 _).set 3 _) Tryz.underlying24 rfl (by kernel_rfl) ?_
     exact eH aA.out (below B) (HV.out) (cE (by omega)) (fun i hi=>cE (by omega)) (HT.out)
    ·have HT0:=HT.out
     clear HT;simp only [if_neg hk2] at HT0;have HT:=Z_ HT0;clear HT0;have hk3:(tk == 2)=false:=by simpa using hk2
     have HN:=Z_ (p_ aA.out.pr HM.out);go_wp2_with fail
     refine HN.out.mono ?_
     rintro e u6 hr;obtain⟨hC,⟨lb,hp,rfl⟩|⟨s6,l6,v,hp,rfl,⟨rfl,hs⟩,hP⟩⟩:=hr.cases (qg _)
     ·have HF:=Z_ (Out.aF HT.out hp)
      have HC:=Z_ (aA.out.aO.then hC);clear hr hp hC;go_wp2_with fail
      exact⟨rfl,dZ.fails HC.out HF.out⟩
     replace HT:=Z_ (Out.aG HT.out hp);replace aA:=Z_ (aA.out.call hC hP);have lM:=Z_ hs;clear hr hp hC hP HN;clear hs
     have HH:=Z_ (sW (aA.out.pr.alloc (.cells #[.string iz] 9)) u6.heap.size [iz] 1 1 rfl (by decide) (fun j hj=>by
      obtain rfl:j=0:=by simpa using hj
      exact(aH.made u6 #[.string iz] 9).cell 0) (by simp))
     have eM:=(aB.refl (fun _=>False) u6).alloc (.cells #[.string iz] 9);replace aA:=Z_ (aA.out.extend eM);clear eM;generalize fO l6 [iz]=R at *;go_wp2_with fail
     refine HH.out.mono ?_
     rintro e u7 ⟨rfl,hE⟩;replace aA:=Z_ (aA.out.extend hE);clear hE HH;cases R with
     | false=>
      have HT0:=HT.out;clear HT;simp only [Bool.false_eq_true,↓reduceIte] at HT0;have HT:=Z_ HT0;clear HT0;have iC:=aA.out.lt;obtain⟨B,hB⟩:∃ B,u7.heap.size=B:=⟨_,rfl⟩;rw [hB] at iC;have HN:=Z_ (ih n (Nat.le_refl _) (.place s6) _ _ aA.out.pr HM.out rfl lM.out (by rw [HT.out];exact ig.out));go_wp2_with fail
      refine HN.out.mono ?_
      rintro e u8 hr;obtain⟨hC,⟨lb,hp,rfl⟩|⟨x8,l8,v8,hp,rfl,hv,hP⟩⟩:=hr.cases (by rw [HT.out];exact ig.out)
      ·have HF:=Z_ (HT.out.symm.trans hp)
       have HC:=Z_ (aA.out.aO.then hC);clear hr hp hC;go_wp2_with fail
       exact⟨rfl,dZ.fails HC.out HF.out⟩
      replace HT:=Z_ (HT.out.symm.trans hp);replace aA:=Z_ (aA.out.call hC hP);obtain⟨ka8,ta8,ma8,aa8,na8,ca8,rfl⟩:=bU hv;have HV8:=Z_ hv;have KP:u7.heap.size≤u8.heap.size:=hC.size;clear hr hp hC hP hv HN;rw [hB] at HV8;have r0:=aA.out.res.cell;have rf:=aA.out.res.frozen;have rl:=aA.out.res.lt;unfold bQ at r0;go_wp2_with fail
      refine bD rfl rfl rfl ((((aA.out.res.set 0 _).set 1 _).set 2 _).set 3 _) Tryz.underlying24 rfl (by kernel_rfl) ?_
      exact eH aA.out (below B) (HV8.out) (cE (by omega)) (fun i hi=>cE (by omega)) (HT.out)
     | true=>
      have HT0:=HT.out;clear HT;simp only [↓reduceIte] at HT0;have HT:=Z_ HT0;clear HT0;have iC:=aA.out.lt;obtain⟨B,hB⟩:∃ B,u7.heap.size=B:=⟨_,rfl⟩;rw [hB] at iC;have HN:=Z_ (ih n (Nat.le_refl _) (.call s6) _ _ aA.out.pr HM.out rfl lM.out (by rw [HT.out];exact ig.out));go_wp2_with fail
      refine HN.out.mono ?_
      rintro e u9 hr;obtain⟨hC,⟨lb,hp,rfl⟩|⟨x9,l9,v9,hp,rfl,hv,hP⟩⟩:=hr.cases (by rw [HT.out];exact ig.out)
      ·have HF:=Z_ (HT.out.symm.trans hp)
       have HC:=Z_ (aA.out.aO.then hC);clear hr hp hC;go_wp2_with fail
       exact⟨rfl,dZ.fails HC.out HF.out⟩
      replace HT:=Z_ (HT.out.symm.trans hp);replace aA:=Z_ (aA.out.call hC hP);obtain⟨ka9,ta9,ma9,aa9,na9,ca9,rfl⟩:=bU hv;have HV9:=Z_ hv;have EU:u7.heap.size≤u9.heap.size:=hC.size;clear hr hp hC hP hv HN;rw [hB] at HV9;have r0:=aA.out.res.cell;have rf:=aA.out.res.frozen;have rl:=aA.out.res.lt;unfold bQ at r0;go_wp2_with fail
      refine bD rfl rfl rfl ((((aA.out.res.set 0 _).set 1 _).set 2 _).set 3 _) Tryz.underlying24 rfl (by kernel_rfl) ?_
      exact eH aA.out (below B) (HV9.out) (cE (by omega)) (fun i hi=>cE (by omega)) (HT.out)
   | true=>
    have HT0:=HT.out;clear HT;simp only [↓reduceIte] at HT0;have HT:=Z_ HT0;clear HT0;have iC:=aA.out.lt;obtain⟨B,hB⟩:∃ B,u3.heap.size=B:=⟨_,rfl⟩;rw [hB] at iC;have HN:=Z_ (ih n (Nat.le_refl _) (.asked) _ _ aA.out.pr HM.out rfl trivial (by rw [HT.out];exact ig.out));go_wp2_with fail
    refine HN.out.mono ?_
    rintro e u10 hr;obtain⟨hC,⟨lb,hp,rfl⟩|⟨x10,l10,v10,hp,rfl,hv,hP⟩⟩:=hr.cases (by rw [HT.out];exact ig.out)
    ·have HF:=Z_ (HT.out.symm.trans hp)
     have HC:=Z_ (aA.out.aO.then hC);clear hr hp hC;go_wp2_with fail
     exact⟨rfl,dZ.fails HC.out HF.out⟩
    replace HT:=Z_ (HT.out.symm.trans hp);replace aA:=Z_ (aA.out.call hC hP);obtain⟨MZ,M_,Na,Nc,Nh,Nj,rfl⟩:=bU hv;have BR:=Z_ hv;have EF:u3.heap.size≤u10.heap.size:=hC.size;clear hr hp hC hP hv HN;rw [hB] at BR;have r0:=aA.out.res.cell;have rf:=aA.out.res.frozen;have rl:=aA.out.res.lt;unfold bQ at r0;go_wp2_with fail
    refine bD rfl rfl rfl ((((aA.out.res.set 0 _).set 1 _).set 2 _).set 3 _) Tryz.underlying24 rfl (by kernel_rfl) ?_
    exact eH aA.out (below B) (BR.out) (cE (by omega)) (fun i hi=>cE (by omega)) (HT.out)
  | true=>
   replace hP:bu W u2 S E l.tail:=by simpa using hP
   have HT0:=HT.out;clear HT;simp only [↓reduceIte] at HT0;have HT:=Z_ HT0;clear HT0;replace aA:=Z_ (aA.out.call hC hP);clear hC hP HH gI;have iC:=aA.out.lt;obtain⟨B,hB⟩:∃ B,u2.heap.size=B:=⟨_,rfl⟩;rw [hB] at iC;have HN:=Z_ (ih n (Nat.le_refl _) (.unary) _ _ aA.out.pr HM.out rfl trivial (Out.bg HT.out ig.out));go_wp2_with fail
   refine HN.out.mono ?_
   rintro e u12 hr;obtain⟨hC,⟨lb,hp,rfl⟩|⟨x12,l12,v12,hp,rfl,hv,hP⟩⟩:=hr.cases (Out.bg HT.out ig.out)
   ·have HF:=Z_ (Out.aF HT.out hp)
    have HC:=Z_ (aA.out.aO.then hC);clear hr hp hC;go_wp2_with fail
    exact⟨rfl,dZ.fails HC.out HF.out⟩
   replace HT:=Z_ (Out.aG HT.out hp);replace aA:=Z_ (aA.out.call hC hP);obtain⟨VF,VG,VH,VI,VJ,VK,rfl⟩:=bU hv;have VL:=Z_ hv;have VM:u2.heap.size≤u12.heap.size:=hC.size;clear hr hp hC hP hv HN;rw [hB] at VL VM;replace HR:=Z_ (zC VL.out (by simp [below];omega) 21 0 aS (by decide) (c:=#[.int .i64 VF,.string VG,.int .i64 VH,.slice VI VJ VK]) rfl);have eM:=(aB.refl (fun _=>False) u12).alloc (.cells #[.int .i64 VF,.string VG,.int .i64 VH,.slice VI VJ VK] 24);replace aA:=Z_ (aA.out.extend eM);clear eM;go_wp2_with fail
   refine(dG _ _ _ _ _ _ _).mono ?_
   rintro e u13 ⟨rfl,hE⟩;replace aA:=Z_ (aA.out.extend hE);replace HR:=Z_ (aJ (aC hE fun _ _ h=>h.elim) _ _ HR.out);clear hE;have r0:=aA.out.res.cell;have rf:=aA.out.res.frozen;have rl:=aA.out.res.lt;unfold bQ at r0;go_wp2_with fail
   refine bD rfl rfl rfl ((((aA.out.res.set 0 _).set 1 _).set 2 _).set 3 _) Tryz.underlying24 rfl (by kernel_rfl) ?_
   exact eH aA.out (below B) (HR.out) (cE (by omega)) (fun i hi=>cE (by omega)) (HT.out.symm)
 | true=>
  replace hP:bu W u1 S E l.tail:=by simpa using hP
  have HT0:=HT.out;clear HT;simp only [↓reduceIte] at HT0;have HT:=Z_ HT0;clear HT0;replace aA:=Z_ (aA.out.call hC hP);clear hC hP HH gI;have iC:=aA.out.lt;obtain⟨B,hB⟩:∃ B,u1.heap.size=B:=⟨_,rfl⟩;rw [hB] at iC;have HN:=Z_ (ih n (Nat.le_refl _) (.unary) _ _ aA.out.pr HM.out rfl trivial (Out.bg HT.out ig.out));go_wp2_with fail
  refine HN.out.mono ?_
  rintro e u15 hr;obtain⟨hC,⟨lb,hp,rfl⟩|⟨x15,l15,v15,hp,rfl,hv,hP⟩⟩:=hr.cases (Out.bg HT.out ig.out)
  ·have HF:=Z_ (Out.aF HT.out hp)
   have HC:=Z_ (aA.out.aO.then hC);clear hr hp hC;go_wp2_with fail
   exact⟨rfl,dZ.fails HC.out HF.out⟩
  replace HT:=Z_ (Out.aG HT.out hp);replace aA:=Z_ (aA.out.call hC hP);obtain⟨VO,VP,VQ,VR,VS,VT,rfl⟩:=bU hv;have VU:=Z_ hv;have VV:u1.heap.size≤u15.heap.size:=hC.size;clear hr hp hC hP hv HN;rw [hB] at VU VV;replace HR:=Z_ (zC VU.out (by simp [below];omega) 20 0 aS (by decide) (c:=#[.int .i64 VO,.string VP,.int .i64 VQ,.slice VR VS VT]) rfl);have eM:=(aB.refl (fun _=>False) u15).alloc (.cells #[.int .i64 VO,.string VP,.int .i64 VQ,.slice VR VS VT] 24);replace aA:=Z_ (aA.out.extend eM);clear eM;go_wp2_with fail
  refine(dG _ _ _ _ _ _ _).mono ?_
  rintro e u16 ⟨rfl,hE⟩;replace aA:=Z_ (aA.out.extend hE);replace HR:=Z_ (aJ (aC hE fun _ _ h=>h.elim) _ _ HR.out);clear hE;have r0:=aA.out.res.cell;have rf:=aA.out.res.frozen;have rl:=aA.out.res.lt;unfold bQ at r0;go_wp2_with fail
  refine bD rfl rfl rfl ((((aA.out.res.set 0 _).set 1 _).set 2 _).set 3 _) Tryz.underlying24 rfl (by kernel_rfl) ?_
  exact eH aA.out (below B) (HR.out) (cE (by omega)) (fun i hi=>cE (by omega)) (HT.out.symm)
end bn
end Go.Proofs.YtpcihajmcejliacGreatDoor
