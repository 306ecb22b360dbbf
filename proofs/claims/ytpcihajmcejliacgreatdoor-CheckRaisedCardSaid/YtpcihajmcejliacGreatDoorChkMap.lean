/- The printed words of statements, declarations and a module are read as them. The printed words of declarations and of a module are read as them; what is printed is read as what it was printed of. What is printed of a text that is read is no longer than its tokens. A map from words to numbers that the call itself has made; must. A map from words to the faces that the call itself has made. -/
import Derived.Maps.OwnSet
import Derived.Maps.OwnOps
import Derived.Test.YtpcihajmcejliacGreatDoorPrtA
import Derived.Test.YtpcihajmcejliacGreatDoorOfD
import Derived.Test.YtpcihajmcejliacGreatDoorRaiR
namespace Go.Proofs.YtpcihajmcejliacGreatDoor
open Go.RowKit
namespace prt
open bH
theorem Wn {t:ByteArray} {m:Int} {x:Nd} (ht:jr t) (h0:0≤m) (h1:m≤1) (hx:(fJ 0 x).1=true):(rZ (.mk 7 t m [x])).2=jh (decide (m=1))::t::Ai::((fJ 0 x).2 ++ [aW]):=by
 simp only [rZ,vK,nV];rw [dZ (jC.2 ⟨ht,h0,h1,by simp,.inr (by simp)⟩)];simp [PO.then,ah,bF,hx]
theorem Wp {p x:Nd} (hp:Jd p.kd) (h1:(fJ 0 p).1=true) (hx:(fJ 0 x).1=true):(rZ (.mk 8 aF 0 [p,x])).2=(fJ 0 p).2++Ai::((fJ 0 x).2 ++ [aW]):=by
 unfold Jd at hp;simp only [rZ,vK,nV];simp [PO.then,ah,bu,bF,hx,h1,cZ,nH,Ux,hp]
theorem aa_ {c:Nd} (hc:c.kd=18) (h1:(fJ 0 c).1=true):(rZ (.mk 9 aF 0 [c])).2=TZ::((fJ 0 c).2 ++ [aW]):=by
 simp only [rZ,vK,nV];simp [PO.then,ah,bu,bF,h1,cZ,nH,Ux,hc]
theorem Wq {x b:Nd} (hx:(fJ 0 x).1=true) (hb:(qH b).1=true):(rZ (.mk 10 aF 0 [x,b])).2=T_::dh::((fJ 0 x).2++aV::(qH b).2):=by
 simp only [rZ,vK,nV];simp only [true_or,if_true,List.length_cons,List.length_nil];rw [dZ (dI.2 ⟨rfl,by decide,by decide,by simp,.inr (by simp)⟩)];simp [PO.then,ah,bF,hx,hb]
theorem Ws {x b c:Nd} (hx:(fJ 0 x).1=true) (hb:(qH b).1=true) (hc:(qH c).1=true):(rZ (.mk 10 aF 0 [x,b,c])).2=T_::dh::((fJ 0 x).2++aV::((qH b).2++nI::(qH c).2)):=by
 simp only [rZ,vK,nV];simp only [true_or,if_true,List.length_cons,List.length_nil];rw [dZ (dI.2 ⟨rfl,by decide,by decide,by simp,.inr (by simp)⟩)];simp [PO.then,ah,bF,hx,hb,hc]
theorem Ls {x b:Nd} (hx:(fJ 0 x).1=true) (hb:(qH b).1=true):(rZ (.mk 11 aF 0 [x,b])).2=tY::dh::((fJ 0 x).2++aV::(qH b).2):=by
 simp only [rZ,vK,nV];simp only [or_true,if_true,List.length_cons,List.length_nil];rw [dZ (dI.2 ⟨rfl,by decide,by decide,by simp,.inr (by simp)⟩)];simp [PO.then,ah,bF,hx,hb]
theorem Wu {m:Int} {x:Nd} (h0:0≤m) (h1:m≤1) (hx:(fJ 0 x).1=true):(rZ (.mk 12 aF m [x])).2=EH::jh (decide (m=1))::((fJ 0 x).2 ++ [aW]):=by
 simp only [rZ,vK,nV];simp only [true_or,if_true,List.length_cons,List.length_nil];simp [PO.then,ah,bu,bF,hx,cZ,nH,h0,h1]
theorem Wv {m:Int} {x:Nd} (h0:0≤m) (h1:m≤1) (hp:Jd x.kd) (hx:(fJ 0 x).1=true):(rZ (.mk 13 aF m [x])).2=Uy::jh (decide (m=1))::((fJ 0 x).2 ++ [aW]):=by
 unfold Jd at hp;simp only [rZ,vK,nV];simp only [or_true,if_true,List.length_cons,List.length_nil];simp [PO.then,ah,bu,bF,hx,cZ,nH,h0,h1,Ux,hp]
theorem Wx {x:Nd} (hx:(fJ 0 x).1=true):(rZ (.mk 14 aF 0 [x])).2=oN::((fJ 0 x).2 ++ [aW]):=by
 simp [rZ,vK,nV,PO.then,ah,bu,bF,hx,cZ,nH]
def Nw:List Nd→List ByteArray
 | []=>[]
 | x::r=>(rZ x).2++Nw r
theorem Nz:∀ (l:List Nd),(∀ y∈l,(rZ y).1=true)→(mG (Aj l)).2=Nw l∧(mG (Aj l)).1=true:=by
 intro l;induction l with
 | nil=>intro _;exact⟨rfl,rfl⟩
 | cons x r ih=>
  intro h;obtain⟨i1,i2⟩:=ih fun y hy=>h y (by simp [hy])
  have hx:=h x (by simp);rw [Aj,mG,pz hx,aX,i1,i2];exact⟨rfl,hx,rfl⟩
theorem Lt {l:List Nd} (h:∀ y∈l,(rZ y).1=true):(qH (.mk 6 aF 0 l)).2=r_::(Nw l ++ [qg]):=by
 obtain⟨h1,h2⟩:=Nz l h;rw [qH,zS,dZ (by decide),dZ (dI.2 ⟨rfl,by decide,by decide,by omega,.inl (by decide)⟩),kJ,pz h2,h1];rfl
theorem nJ {b:Bool} {t:Tk} {r:List Tk} (h:Is t (jh b)):dJ (t::r)=.got (if b=true then 1 else 0) r:=by
 unfold dJ;cases b with
 | true=>rw [if_pos (iG (w:=pF) h)];rfl
 | false=>
  have h2:Is t rI:=h;rw [if_neg (by rw [dS h2];decide),iH h2];rfl
theorem xH {m:Int} (h0:0≤m) (h1:m≤1):(if decide (m=1)=true then (1:Int) else 0)=m:=by
 rcases (show m=0∨m=1 by omega) with rfl|rfl<;>rfl
theorem mX {x:Nd} {t:Tk} {r:List Tk} (h:Is t aW):nC x (t::r)=.got x r:=by
 unfold nC;rw [iH h];rfl
theorem uU {t:Tk} {r:List Tk} {w a b:ByteArray} (h:Is t w) (h1:w≠a) (h2:w≠b):eY (t::r) [a,b]=false:=by
 obtain⟨h3,h4⟩:=h;simp [eY,h3,h1,h2]
theorem AV {p:Nd} (hr:tN p) (hX:fC p) (hp:Jd p.kd) {l r:List Tk} (h:Fits (fJ 0 p).2 l) (hF:yS 0 r):∃ t r1 w q,iO (l++r)=.got t r1∧Rd (.place t) r1 (.got p r)∧(∃ t1,l=t1::q∧Is t1 w∧jr w):=by
 obtain⟨kd,t,m,ks⟩:=p;have hk:=hr.kids;have iI:=hX.kids;have hf:=hX.form;unfold Jd Nd.kd at hp;cases hf with
 | name ht=>
  rw [EI _ ht] at h;obtain⟨w,ws,e,hw⟩:=kV ht;have h2:=h;rw [e] at h2;obtain⟨t1,q,rfl,h3,-⟩:=Fits.cons h2;exact⟨t,r,w,q,vM ht h hF.dot,AX hF.bra,t1,rfl,h3,hw⟩
 | @item _ x ht hx=>
  have hok:=(lZ x 0 (hk x (by simp))).2 ⟨iI x (by simp),hx⟩;rw [EJ _ ht hok] at h;obtain⟨l1,l2,rfl,h1,h2⟩:=Fits.app h;obtain⟨t1,q,rfl,h3,h4⟩:=Fits.cons h2;obtain⟨l3,l4,rfl,h5,h6⟩:=Fits.app h4;obtain⟨t2,q,rfl,h7,h8⟩:=Fits.cons h6;obtain rfl:=Fits.nil h8;obtain⟨w,ws,e,hw⟩:=kV ht;have h9:=h1;rw [e] at h9;obtain⟨t5,q5,rfl,h10,-⟩:=Fits.cons h9;have e2:((t5::q5)++t1::(l3 ++ [t2]))++r=(t5::q5)++(t1::(l3++t2::r)):=by simp
  refine⟨t,t1::(l3++t2::r),w,q5++t1::(l3 ++ [t2]),?_,AY h3 h7 ((EK x (hk x (by simp)) (iI x (by simp)) hx).all h5 (gX h7 (.inr (.inl rfl)) r)),t5,rfl,h10,hw⟩
  rw [e2];exact vM ht h1 (dS h3)
 | _=>exact absurd hp (by simp)
theorem Uz {c:Nd} (hr:tN c) (hX:fC c) (hp:c.kd=18) {l r:List Tk} (h:Fits (fJ 0 c).2 l):∃ t r1,iO (l++r)=.got t r1∧Rd (.call t) r1 (.got c r):=by
 obtain⟨kd,t,m,ks⟩:=c;have hk:=hr.kids;have iI:=hX.kids;have hf:=hX.form;have h18:kd=18:=hp;subst h18;cases hf with
 | call ht hl=>
  have ok:∀ y∈ks,(fJ 0 y).1=true:=fun y hy=>(lZ y 0 (hk y hy)).2 ⟨iI y hy,hl y hy⟩
  rw [Jw _ ht ok] at h;obtain⟨l1,l2,rfl,h1,h2⟩:=Fits.app h;obtain⟨t1,q,rfl,h3,h4⟩:=Fits.cons h2;obtain⟨l3,l4,rfl,h5,h6⟩:=Fits.app h4;obtain⟨t2,q,rfl,h7,h8⟩:=Fits.cons h6;obtain rfl:=Fits.nil h8;have e2:(l1++t1::(l3 ++ [t2]))++r=l1++(t1::(l3++t2::r)):=by simp
  refine⟨t,t1::(l3++t2::r),?_,DG (fun z hz=>⟨EK z (hk z hz) (iI z hz) (hl z hz),ok z hz,Lu z 0 (hk z hz) (iI z hz) (hl z hz)⟩) h3 h7 h5⟩
  rw [e2];exact vM ht h1 (dS h3)
def GK (w:ByteArray):Prop:=nameB w.data.toList=true∨w=pF∨w=rI∨w=TZ∨w=T_∨w=tY∨w=EH∨w=Uy∨w=oN
theorem GK.ne {w:ByteArray} (h:GK w):w≠qg∧w≠nI:=by
 rcases h with h|rfl|rfl|rfl|rfl|rfl|rfl|rfl|rfl
 ·exact⟨kR h,kR h⟩
 all_goals decide
theorem Qr (b:Bool):GK (jh b):=by
 cases b
 ·exact .inr (.inr (.inl rfl))
 ·exact .inr (.inl rfl)
theorem Jy {p:Nd} (hr:tN p) (hX:fC p) (hp:Jd p.kd):∃ w ws,(fJ 0 p).2=w::ws∧jr w:=by
 obtain⟨kd,t,m,ks⟩:=p;have hk:=hr.kids;have iI:=hX.kids;have hf:=hX.form;unfold Jd Nd.kd at hp;cases hf with
 | name ht=>
  obtain⟨w,ws,e,hw⟩:=kV ht;exact⟨w,ws,by rw [EI _ ht,e],hw⟩
 | @item _ x ht hx=>
  have hok:=(lZ x 0 (hk x (by simp))).2 ⟨iI x (by simp),hx⟩;obtain⟨w,ws,e,hw⟩:=kV ht;exact⟨w,_,by rw [EJ _ ht hok,e];rfl,hw⟩
 | _=>exact absurd hp (by simp)
theorem UA (x:Nd) (hr:tN x) (hX:fC x) (hs:uP x.kd):∃ w ws,(rZ x).2=w::ws∧GK w:=by
 obtain⟨kd,t,m,l⟩:=x;have hk:=hr.kids;have iI:=hX.kids;have hf:=hX.form;unfold uP Nd.kd at hs;have wL:∀ y∈l,mJ y.kd→(fJ 0 y).1=true:=fun y hy h=>(lZ y 0 (hk y hy)).2 ⟨iI y hy,h⟩
 have Ly:∀ y∈l,y.kd=6→(qH y).1=true:=fun y hy h=>(vN y (hk y hy)).2.2 ⟨iI y hy,h⟩
 cases hf with
 | @loc _ _ x ht h0 h1 hx=>exact⟨_,_,Wn ht h0 h1 (wL x (by simp) hx),Qr _⟩
 | @set p x hp hx=>
  obtain⟨w,ws,e,hw⟩:=Jy (hk p (by simp)) (iI p (by simp)) hp;exact⟨w,_,by rw [Wp hp (wL p (by simp) (pU.zA hp)) (wL x (by simp) hx),e];rfl,.inl hw⟩
 | @Wy c hc=>exact⟨_,_,aa_ hc (wL c (by simp) (by rw [hc];exact⟨by decide,by decide⟩)),.inr (.inr (.inr (.inl rfl)))⟩
 | @WA x b hx hb=>exact⟨_,_,Wq (wL x (by simp) hx) (Ly b (by simp) hb),.inr (.inr (.inr (.inr (.inl rfl))))⟩
 | @WB x b c hx hb hc=>exact⟨_,_,Ws (wL x (by simp) hx) (Ly b (by simp) hb) (Ly c (by simp) hc),.inr (.inr (.inr (.inr (.inl rfl))))⟩
 | @uV x b hx hb=>exact⟨_,_,Ls (wL x (by simp) hx) (Ly b (by simp) hb),.inr (.inr (.inr (.inr (.inr (.inl rfl)))))⟩
 | @out _ x h0 h1 hx=>exact⟨_,_,Wu h0 h1 (wL x (by simp) hx),.inr (.inr (.inr (.inr (.inr (.inr (.inl rfl))))))⟩
 | @inp _ x h0 h1 hx=>exact⟨_,_,Wv h0 h1 hx (wL x (by simp) (pU.zA hx)),.inr (.inr (.inr (.inr (.inr (.inr (.inr (.inl rfl)))))))⟩
 | @ret x hx=>exact⟨_,_,Wx (wL x (by simp) hx),.inr (.inr (.inr (.inr (.inr (.inr (.inr (.inr rfl)))))))⟩
 | _=>exact absurd hs (by simp)
def BlB (x:Nd):Prop:=∀ (l r:List Tk),Fits (qH x).2 l→Rd .block (l++r) (.got x r)
def StB (x:Nd):Prop:=∀ (l r:List Tk),Fits (rZ x).2 l→eY r [nI]=false→Rd .stat (l++r) (.got x r)
theorem Jz:∀ (ys acc:List Nd) (l r:List Tk) (t:Tk),(∀ z∈ys,StB z∧∃ w ws,(rZ z).2=w::ws∧GK w)→Fits (Nw ys) l→Is t qg→Rd (.stats acc) (l++t::r) (.got (.mk 6 aF 0 (acc++ys)) r):=by
 intro ys;induction ys with
 | nil=>
  intro acc l r t hz h ht;obtain rfl:=Fits.nil h;refine WC fun m=>?_
  rw [List.nil_append,bn,iG ht,if_pos rfl,List.append_nil];rfl
 | cons y ys ih=>
  intro acc l r t hz h ht;obtain⟨hb,w,ws,e,hw⟩:=hz y (by simp);rw [Nw] at h;obtain⟨l1,l2,rfl,h1,h2⟩:=Fits.app h;have hrec:=ih (acc ++ [y]) l2 r t (fun u hu=>hz u (by simp [hu])) h2 ht
  have aq_:eY (l2++t::r) [nI]=false:=by
   cases ys with
   | nil=>
    obtain rfl:=Fits.nil h2;exact dS ht
   | cons z zs=>
    obtain⟨-,w2,ws2,e2,hw2⟩:=hz z (by simp);rw [Nw,e2] at h2;obtain⟨t2,q2,rfl,h4,-⟩:=Fits.cons h2;exact dS h4 hw2.ne.2
  have hy:=hb l1 (l2++t::r) h1 aq_
  have hno:eY (l1++(l2++t::r)) [qg]=false:=by
   rw [e] at h1;obtain⟨t2,q2,rfl,h4,-⟩:=Fits.cons h1;exact dS h4 hw.ne.1
  refine WE hy hrec fun m a b=>?_
  rw [List.append_assoc,bn,hno,if_neg (by decide),a];show bn m (.stats (acc ++ [y])) (l2++t::r)=_
  rw [b,List.append_assoc];rfl
theorem UB:∀ (x:Nd),tN x→fC x→(uP x.kd→StB x)∧(x.kd=6→BlB x):=by
 refine gz fun kd t m l ih hr hX=>?_
 have hk:=hr.kids;have iI:=hX.kids;have hf:=hX.form;have wL:∀ y∈l,mJ y.kd→(fJ 0 y).1=true:=fun y hy h=>(lZ y 0 (hk y hy)).2 ⟨iI y hy,h⟩
 have Ly:∀ y∈l,y.kd=6→(qH y).1=true:=fun y hy h=>(vN y (hk y hy)).2.2 ⟨iI y hy,h⟩
 have XR:∀ y∈l,mJ y.kd→XS y:=fun y hy h=>EK y (hk y hy) (iI y hy) h
 have blb:∀ y∈l,y.kd=6→BlB y:=fun y hy h=>(ih y hy (hk y hy) (iI y hy)).2 h
 refine⟨fun hs=>?_,fun h6=>?_⟩
 ·unfold uP Nd.kd at hs
  intro ts r hfit hel;cases hf with
  | @loc _ _ x ht h0 h1 hx=>
   rw [Wn ht h0 h1 (wL x (by simp) hx)] at hfit;obtain⟨t1,q,rfl,h2,h3⟩:=Fits.cons hfit;obtain⟨t2,q,rfl,h4,h5⟩:=Fits.cons h3;obtain⟨t3,q,rfl,h6,h7⟩:=Fits.cons h5;obtain⟨l1,l2,rfl,h8,h9⟩:=Fits.app h7;obtain⟨t4,q,rfl,h10,h11⟩:=Fits.cons h9;obtain rfl:=Fits.nil h11;have hx2:=(XR x (by simp) hx).all h8 (gX h10 (.inr (.inr (.inr (.inl rfl)))) r);have e:(t1::t2::t3::(l1 ++ [t4]))++r=t1::t2::t3::(l1++t4::r):=by simp
   have hlh:eY (t1::t2::t3::(l1++t4::r)) [rI,pF]=true:=by
    obtain⟨a1,a2⟩:=h2;cases hm:decide (m=1)<;>rw [hm] at a1 a2
    ·have a1':t1.text=rI:=a1
     have a2':t1.kind≠2:=by rw [a2];decide
     simp [eY,a1',a2']
    ·have a1':t1.text=pF:=a1
     have a2':t1.kind≠2:=by rw [a2];decide
     simp [eY,a1',a2']
   refine zB hx2 fun n a=>?_
   rw [e,bn,hlh,if_pos rfl,nJ h2,xH h0 h1];show (fP (t2::t3::(l1++t4::r))).bind _=_
   rw [kW h4 ht];show (dU Ai (t3::(l1++t4::r))).bind _=_
   rw [iH h6];show (bn n .expr (l1++t4::r)).bind _=_
   rw [a];exact mX h10
  | @set p x hp hx=>
   rw [Wp hp (wL p (by simp) (pU.zA hp)) (wL x (by simp) hx)] at hfit;obtain⟨l1,l2,rfl,h1,h2⟩:=Fits.app hfit;obtain⟨t3,q,rfl,h6,h7⟩:=Fits.cons h2;obtain⟨l3,l4,rfl,h8,h9⟩:=Fits.app h7;obtain⟨t4,q,rfl,h10,h11⟩:=Fits.cons h9;obtain rfl:=Fits.nil h11;have hx2:=(XR x (by simp) hx).all h8 (gX h10 (.inr (.inr (.inr (.inl rfl)))) r);have e:(l1++t3::(l3 ++ [t4]))++r=l1++(t3::(l3++t4::r)):=by simp
   obtain⟨s,r1,w,q,hp1,hp2,t1,rfl,hw1,hw⟩:=AV (hk p (by simp)) (iI p (by simp)) hp h1 (gX h6 (.inr (.inr (.inr (.inr rfl)))) (l3++t4::r));refine WE hp2 hx2 fun n a b=>?_
   rw [e,List.cons_append];rw [List.cons_append] at hp1;rw [bn,uU hw1 (kR hw) (kR hw),dS hw1 (kR hw),dS hw1 (kR hw),dS hw1 (kR hw),dS hw1 (kR hw),dS hw1 (kR hw),dS hw1 (kR hw)];rw [if_neg (by decide),if_neg (by decide),if_neg (by decide),if_neg (by decide),if_neg (by decide),if_neg (by decide),if_neg (by decide),hp1];show (bn n (.place s) r1).bind _=_
   rw [a];show (dU Ai (t3::(l3++t4::r))).bind _=_
   rw [iH h6];show (bn n .expr (l3++t4::r)).bind _=_
   rw [b];exact mX h10
  | @Wy c hc=>
   rw [aa_ hc (wL c (by simp) (by rw [hc];exact⟨by decide,by decide⟩))] at hfit;obtain⟨t1,q,rfl,h2,h3⟩:=Fits.cons hfit;obtain⟨l1,l2,rfl,h8,h9⟩:=Fits.app h3;obtain⟨t4,q,rfl,h10,h11⟩:=Fits.cons h9;obtain rfl:=Fits.nil h11;have e:(t1::(l1 ++ [t4]))++r=t1::(l1++t4::r):=by simp
   obtain⟨s,r1,hp1,hp2⟩:=Uz (hk c (by simp)) (iI c (by simp)) hc h8 (r:=t4::r);refine zB hp2 fun n a=>?_
   rw [e,bn,uU h2 (by decide) (by decide),iG h2,if_neg (by decide),if_pos rfl];show (iO (l1++t4::r)).bind _=_
   rw [hp1];show (bn n (.call s) r1).bind _=_
   rw [a];exact mX h10
  | @WA x b hx hb=>
   rw [Wq (wL x (by simp) hx) (Ly b (by simp) hb)] at hfit;obtain⟨t1,q,rfl,h2,h3⟩:=Fits.cons hfit;obtain⟨t2,q,rfl,h4,h5⟩:=Fits.cons h3;obtain⟨l1,l2,rfl,h6,h7⟩:=Fits.app h5;obtain⟨t3,q,rfl,h8,h9⟩:=Fits.cons h7;have e:(t1::t2::(l1++t3::q))++r=t1::t2::(l1++t3::(q++r)):=by simp
   have hx2:=tZ h4 h8 ((XR x (by simp) hx).all h6 (gX h8 (.inl rfl) (q++r)));have hb2:=blb b (by simp) hb q r h9;refine WE hx2 hb2 fun n a c=>?_
   rw [e,bn,uU h2 (by decide) (by decide),dS h2,iG h2,if_neg (by decide),if_neg (by decide),if_pos rfl];show (bn n .asked (t2::(l1++t3::(q++r)))).bind _=_
   rw [a];show (bn n .block (q++r)).bind _=_
   rw [c];show (if eY r [nI]=true then _ else _)=_
   rw [hel,if_neg (by decide)]
  | @WB x b c hx hb hc=>
   rw [Ws (wL x (by simp) hx) (Ly b (by simp) hb) (Ly c (by simp) hc)] at hfit;obtain⟨t1,q,rfl,h2,h3⟩:=Fits.cons hfit;obtain⟨t2,q,rfl,h4,h5⟩:=Fits.cons h3;obtain⟨l1,l2,rfl,h6,h7⟩:=Fits.app h5;obtain⟨t3,q,rfl,h8,h9⟩:=Fits.cons h7;obtain⟨l3,l4,rfl,h10,h11⟩:=Fits.app h9;obtain⟨t4,q,rfl,h12,h13⟩:=Fits.cons h11;have e:(t1::t2::(l1++t3::(l3++t4::q)))++r=t1::t2::(l1++t3::(l3++t4::(q++r))):=by simp
   have hx2:=tZ h4 h8 ((XR x (by simp) hx).all h6 (gX h8 (.inl rfl) (l3++t4::(q++r))));have hb2:=blb b (by simp) hb l3 (t4::(q++r)) h10;have hc2:=blb c (by simp) hc q r h13;refine rd3 hx2 hb2 hc2 fun n a c d=>?_
   rw [e,bn,uU h2 (by decide) (by decide),dS h2,iG h2,if_neg (by decide),if_neg (by decide),if_pos rfl];show (bn n .asked (t2::(l1++t3::(l3++t4::(q++r))))).bind _=_
   rw [a];show (bn n .block (l3++t4::(q++r))).bind _=_
   rw [c];show (if eY (t4::(q++r)) [nI]=true then (bn n .block (q++r)).bind _ else _)=_
   rw [iG h12,if_pos rfl,d];rfl
  | @uV x b hx hb=>
   rw [Ls (wL x (by simp) hx) (Ly b (by simp) hb)] at hfit;obtain⟨t1,q,rfl,h2,h3⟩:=Fits.cons hfit;obtain⟨t2,q,rfl,h4,h5⟩:=Fits.cons h3;obtain⟨l1,l2,rfl,h6,h7⟩:=Fits.app h5;obtain⟨t3,q,rfl,h8,h9⟩:=Fits.cons h7;have e:(t1::t2::(l1++t3::q))++r=t1::t2::(l1++t3::(q++r)):=by simp
   have hx2:=tZ h4 h8 ((XR x (by simp) hx).all h6 (gX h8 (.inl rfl) (q++r)));have hb2:=blb b (by simp) hb q r h9;refine WE hx2 hb2 fun n a c=>?_
   rw [e,bn,uU h2 (by decide) (by decide),dS h2,dS h2,iG h2,if_neg (by decide),if_neg (by decide),if_neg (by decide),if_pos rfl];show (bn n .asked (t2::(l1++t3::(q++r)))).bind _=_
   rw [a];show (bn n .block (q++r)).bind _=_
   rw [c];rfl
  | @out _ x h0 h1 hx=>
   rw [Wu h0 h1 (wL x (by simp) hx)] at hfit;obtain⟨t1,q,rfl,h2,h3⟩:=Fits.cons hfit;obtain⟨t2,q,rfl,h4,h5⟩:=Fits.cons h3;obtain⟨l1,l2,rfl,h8,h9⟩:=Fits.app h5;obtain⟨t4,q,rfl,h10,h11⟩:=Fits.cons h9;obtain rfl:=Fits.nil h11;have hx2:=(XR x (by simp) hx).all h8 (gX h10 (.inr (.inr (.inr (.inl rfl)))) r);have e:(t1::t2::(l1 ++ [t4]))++r=t1::t2::(l1++t4::r):=by simp
   refine zB hx2 fun n a=>?_
   rw [e,bn,uU h2 (by decide) (by decide),dS h2,dS h2,dS h2,iG h2,if_neg (by decide),if_neg (by decide),if_neg (by decide),if_neg (by decide),if_pos rfl];show (dJ (t2::(l1++t4::r))).bind _=_
   rw [nJ h4,xH h0 h1];show (bn n .expr (l1++t4::r)).bind _=_
   rw [a];exact mX h10
  | @inp _ x h0 h1 hx=>
   rw [Wv h0 h1 hx (wL x (by simp) (pU.zA hx))] at hfit;obtain⟨t1,q,rfl,h2,h3⟩:=Fits.cons hfit;obtain⟨t2,q,rfl,h4,h5⟩:=Fits.cons h3;obtain⟨l1,l2,rfl,h8,h9⟩:=Fits.app h5;obtain⟨t4,q,rfl,h10,h11⟩:=Fits.cons h9;obtain rfl:=Fits.nil h11;have e:(t1::t2::(l1 ++ [t4]))++r=t1::t2::(l1++t4::r):=by simp
   obtain⟨s,r1,w,q,hp1,hp2,-⟩:=AV (hk x (by simp)) (iI x (by simp)) hx h8 (gX h10 (.inr (.inr (.inr (.inl rfl)))) r);refine zB hp2 fun n a=>?_
   rw [e,bn,uU h2 (by decide) (by decide),dS h2,dS h2,dS h2,dS h2,iG h2,if_neg (by decide),if_neg (by decide),if_neg (by decide),if_neg (by decide),if_neg (by decide),if_pos rfl];show (dJ (t2::(l1++t4::r))).bind _=_
   rw [nJ h4,xH h0 h1];show (iO (l1++t4::r)).bind _=_
   rw [hp1];show (bn n (.place s) r1).bind _=_
   rw [a];exact mX h10
  | @ret x hx=>
   rw [Wx (wL x (by simp) hx)] at hfit;obtain⟨t1,q,rfl,h2,h3⟩:=Fits.cons hfit;obtain⟨l1,l2,rfl,h8,h9⟩:=Fits.app h3;obtain⟨t4,q,rfl,h10,h11⟩:=Fits.cons h9;obtain rfl:=Fits.nil h11;have hx2:=(XR x (by simp) hx).all h8 (gX h10 (.inr (.inr (.inr (.inl rfl)))) r);have e:(t1::(l1 ++ [t4]))++r=t1::(l1++t4::r):=by simp
   refine zB hx2 fun n a=>?_
   rw [e,bn,uU h2 (by decide) (by decide),dS h2,dS h2,dS h2,dS h2,dS h2,iG h2,if_neg (by decide),if_neg (by decide),if_neg (by decide),if_neg (by decide),if_neg (by decide),if_neg (by decide),if_pos rfl];show (bn n .expr (l1++t4::r)).bind _=_
   rw [a];exact mX h10
  | _=>exact absurd hs (by simp)
 ·have hk6:kd=6:=h6
  subst hk6;intro ts r hfit;cases hf with
  | block hl=>
   have sto:∀ y∈l,(rZ y).1=true:=fun y hy=>(vN y (hk y hy)).1.2 ⟨iI y hy,hl y hy⟩
   rw [Lt sto] at hfit;obtain⟨t1,q,rfl,h2,h3⟩:=Fits.cons hfit;obtain⟨l1,l2,rfl,h8,h9⟩:=Fits.app h3;obtain⟨t4,q,rfl,h10,h11⟩:=Fits.cons h9;obtain rfl:=Fits.nil h11;have e:(t1::(l1 ++ [t4]))++r=t1::(l1++t4::r):=by simp
   have hs2:=Jz l [] l1 r t4 (fun z hz=>⟨(ih z hz (hk z hz) (iI z hz)).1 (hl z hz),UA z (hk z hz) (iI z hz) (hl z hz)⟩) h8 h10;refine zB hs2 fun n a=>?_
   rw [e,bn,iH h2];exact a
end prt
end Go.Proofs.YtpcihajmcejliacGreatDoor
namespace Go.Proofs.YtpcihajmcejliacGreatDoor
open Go.RowKit
namespace prt
open bH
theorem WG {t:ByteArray} {m:Int} (ht:jr t) (h0:0≤m) (h1:m≤3):(rJ (.mk 3 t m [])).2=rK m++jh (decide (m % 2=1))::t :: [aW]:=by
 simp only [rJ];rw [dZ (jC.2 ⟨ht,h0,h1,by simp,.inr (by simp)⟩)];simp [PO.then,ah,mG]
theorem WH {t:ByteArray} {m:Int} {y:Nd} (ht:jr t) (h0:0≤m) (h1:m≤3) (hy:y.kd=15) (ho:(fJ 0 y).1=true):(rJ (.mk 3 t m [y])).2=rK m++jh (decide (m % 2=1))::t::ov::((fJ 0 y).2++lN :: [aW]):=by
 simp only [rJ];rw [dZ (jC.2 ⟨ht,h0,h1,by simp,.inr (by simp)⟩)];simp [PO.then,ah,mG,bu,hy,ho]
def uX:List Nd→Nat→List ByteArray
 | [],_=>[]
 | x::r,i=>(if 0<i then [fL] else [])++jh (decide (x.nm=1))::x.tx::uX r (i+1)
theorem JA:∀ (l:List Nd) (i:Nat),(∀ y∈l,y.kd=5∧eH y.tx y.nm y.kids.length 0 0 1=true)→(kS l i).2=uX l i∧(kS l i).1=true:=by
 intro l;induction l with
 | nil=>intro i _;exact⟨rfl,rfl⟩
 | cons x r ih=>
  intro i h;obtain⟨i1,i2⟩:=ih (i+1) fun y hy=>h y (by simp [hy])
  obtain⟨hk,hn⟩:=h x (by simp)
  have hp:(zT i x).1=true∧(zT i x).2=(if 0<i then [fL] else [])++jh (decide (x.nm=1)) :: [x.tx]:=by
   unfold zT;rw [dZ (by simpa using hk),dZ hn];refine⟨by simp only [aX,cH];exact⟨trivial,trivial,trivial⟩,?_⟩
   rw [kJ,kJ];rfl
  rw [kS,pz hp.1,aX,i1,i2,hp.2,uX];exact⟨by simp,hp.1,rfl⟩
def NC (m:Int):List ByteArray:=if 4≤m then [iJ,jh (decide (8≤m))] else []
theorem Qs {t:ByteArray} {m:Int} {ps:List Nd} {b:Nd} (ht:jr t) (h0:0≤m) (h1:m≤11) (hp:∀ y∈ps,fC y∧y.kd=5):(mY (.mk 4 t m (ps ++ [b]))).2=rK m++qh::t::dh::(uX ps 0++aV::jh (decide (m % 2=1))::(NC m++(qH b).2)):=by
 obtain⟨p1,p2⟩:=JA ps 0 fun y hy=>(wV y).2 (hp y hy)
 simp only [mY];rw [dZ (jC.2 ⟨ht,h0,h1,by rw [List.length_append,List.length_singleton];omega,.inl (by decide)⟩),List.dropLast_concat,List.getLastD_concat]
 have hg:(if 4≤m then (ah [iJ]).then (ah [jh (decide (8≤m))]) else ah [])=(true,NC m):=by
  unfold NC;split
  ·rfl
  ·rfl
 rw [kJ,kJ,pz p2,kJ,kJ,hg,p1];simp [PO.then]
theorem JB {m:Int} {t:Tk} {ts l:List Tk} (h:Fits (rK m) l) (hn:t.text≠rL):∃ l2,l++(t::ts)=l2∧(eY l2 [rL]=decide (2≤m % 4))∧(if decide (2≤m % 4)=true then l2.tail else l2)=t::ts:=by
 unfold rK at h;refine⟨_,rfl,?_⟩
 split at h
 ·rename_i h2
  obtain⟨t1,q,rfl,h3,h4⟩:=Fits.cons h;obtain rfl:=Fits.nil h4;rw [List.singleton_append,iG h3];exact⟨by simpa using h2,by rw [if_pos (by simpa using h2)];rfl⟩
 ·rename_i h2
  obtain rfl:=Fits.nil h;have hno:eY (t::ts) [rL]=false:=by simp [eY,hn]
  rw [List.nil_append,hno];exact⟨by simpa using h2,by rw [if_neg (by simpa using h2)]⟩
theorem JC {t:Tk} {w v:ByteArray} (h:Is t w) (hn:w≠v):t.text≠v:=by rw [h.1];exact hn
theorem EL (b:Bool):jh b≠rL∧jh b≠qh:=by cases b<;>decide
theorem EM (m:Int):(if decide (m % 2=1)=true then (1:Int) else 0)=m % 2:=by
 have:m % 2=0∨m % 2=1:=by omega
 rcases this with h|h<;>rw [h]<;>rfl
theorem Qu (x:Nd) (hr:tN x) (hX:fC x) (h3:x.kd=3) (l r:List Tk) (h:Fits (rJ x).2 l):Rd .decl (l++r) (.got x r):=by
 obtain⟨kd,t,m,ks⟩:=x;have hk3:kd=3:=h3;subst hk3;have hk:=hr.kids;have iI:=hX.kids;have hf:=hX.form;cases hf with
 | var ht h0 h1=>
  rw [WG ht h0 h1] at h;obtain⟨l1,l2,rfl,h4,h5⟩:=Fits.app h;obtain⟨t1,q,rfl,h6,h7⟩:=Fits.cons h5;obtain⟨t2,q,rfl,h8,h9⟩:=Fits.cons h7;obtain⟨t3,q,rfl,h10,h11⟩:=Fits.cons h9;obtain rfl:=Fits.nil h11;have e:(l1++t1::t2 :: [t3])++r=l1++t1::(t2::t3::r):=by simp
  obtain⟨L,hL,hp1,hp2⟩:=JB h4 (ts:=t2::t3::r) (JC h6 (EL _).1);rw [e,hL];refine WC fun n=>?_
  rw [bn];simp only [hp1,hp2];rw [dS h6 (EL _).2,if_neg (by decide),nJ h6,EM m];show (fP (t2::t3::r)).bind _=_
  rw [kW h8 ht];show (if eY (t3::r) [ov]=true then _ else _)=_
  rw [dS h10,if_neg (by decide),mX h10];congr 2
  by_cases h2:2≤m % 4
  ·simp only [decide_eq_true_eq,h2,if_true];omega
  ·simp only [decide_eq_true_eq,h2,if_false];omega
 | @array _ _ y ht h0 h1 hy=>
  obtain⟨kd,ty,my,ky⟩:=y;have ar0:kd=15:=hy;subst ar0;have hfy:=(iI (.mk 15 ty my ky) (by simp)).form;cases hfy with
  | num g0 g1=>
   rw [WH ht h0 h1 hy ((lZ _ 0 (hk _ (by simp))).2 ⟨iI _ (by simp),by rw [hy];exact⟨by decide,by decide⟩⟩),w_num _ g0] at h;obtain⟨l1,l2,rfl,h4,h5⟩:=Fits.app h;obtain⟨t1,q,rfl,h6,h7⟩:=Fits.cons h5;obtain⟨t2,q,rfl,h8,h9⟩:=Fits.cons h7;obtain⟨t3,q,rfl,h10,h11⟩:=Fits.cons h9;rw [List.singleton_append] at h11;obtain⟨t4,q,rfl,h12,h13⟩:=Fits.cons h11;obtain⟨t5,q,rfl,h14,h15⟩:=Fits.cons h13;obtain⟨t6,q,rfl,h16,h17⟩:=Fits.cons h15;obtain rfl:=Fits.nil h17;have e:(l1++t1::t2::t3::t4::t5 :: [t6])++r=l1++t1::(t2::t3::t4::t5::t6::r):=by simp
   obtain⟨L,hL,hp1,hp2⟩:=JB h4 (ts:=t2::t3::t4::t5::t6::r) (JC h6 (EL _).1);rw [e,hL];refine WC fun n=>?_
   rw [bn];simp only [hp1,hp2];rw [dS h6 (EL _).2,if_neg (by decide),nJ h6,EM m];show (fP (t2::t3::t4::t5::t6::r)).bind _=_
   rw [kW h8 ht];show (if eY (t3::t4::t5::t6::r) [ov]=true then (gu (t4::t5::t6::r)).bind _ else _)=_
   rw [iG h10,if_pos rfl]
   have hnum:gu (t4::t5::t6::r)=.got (.mk 15 aF my []) (t5::t6::r):=by
    simp only [gu];rw [if_pos (h12.2.trans (AZ g0 g1)),h12.1,LC g0 g1]
   rw [hnum];show (dU lN (t5::t6::r)).bind _=_
   rw [iH h14];show nC _ (t6::r)=_
   rw [mX h16];congr 2
   by_cases h2:2≤m % 4
   ·simp only [decide_eq_true_eq,h2,if_true];omega
   ·simp only [decide_eq_true_eq,h2,if_false];omega
def LD (n:Nat) (s:ByteArray) (pub:Int) (acc:List Nd) (l:List Tk):Out Nd:=(dU aV l).bind fun _ l=>(dJ l).bind fun b l=>
 if eY l [iJ]=true then (dJ l.tail).bind fun g l=>(bn n .block l).bind fun x l=>.got (.mk 4 s (pub+b+(4+4*g)) (acc ++ [x])) l
 else (bn n .block l).bind fun x l=>.got (.mk 4 s (pub+b) (acc ++ [x])) l
theorem DI {n:Nat} {s:ByteArray} {m:Int} (h0:0≤m) (h1:m≤11) {acc:List Nd} {b:Nd} {t1 t2:Tk} {l1 l2 r:List Tk} (k1:Is t1 aV) (k2:Is t2 (jh (decide (m % 2=1)))) (k3:Fits (NC m) l1) (hg:eY (l2++r) [iJ]=false) (hb:bn n .block (l2++r)=.got b r) :
  LD n s (if 2≤m % 4 then 2 else 0) acc (t1::t2::(l1++(l2++r)))=.got (.mk 4 s m (acc ++ [b])) r:=by
 unfold LD;rw [iH k1];show (dJ (t2::(l1++(l2++r)))).bind _=_
 rw [nJ k2,EM m];unfold NC at k3;split at k3
 ·rename_i h4
  obtain⟨t3,q,rfl,h5,h6⟩:=Fits.cons k3;obtain⟨t4,q,rfl,h7,h8⟩:=Fits.cons h6;obtain rfl:=Fits.nil h8;show (if eY (t3::t4::(l2++r)) [iJ]=true then (dJ (t4::(l2++r))).bind _ else _)=_
  rw [iG h5,if_pos rfl,nJ h7];show (bn n .block (l2++r)).bind _=_
  rw [hb];show Out.got (Nd.mk 4 s _ (acc ++ [b])) r=_
  congr 2
  by_cases h8:8≤m
  ·simp only [h8,decide_true,if_true]
   split<;>omega
  ·simp only [h8,decide_false,Bool.false_eq_true,if_false]
   split<;>omega
 ·rename_i h4
  obtain rfl:=Fits.nil k3;show (if eY (l2++r) [iJ]=true then _ else _)=_
  rw [hg,if_neg (by decide)];show (bn n .block (l2++r)).bind _=_
  rw [hb];show Out.got (Nd.mk 4 s _ (acc ++ [b])) r=_
  congr 2
  split<;>omega
theorem wW (n:Nat) (s:ByteArray) (pub:Int) (acc:List Nd) (l:List Tk):bn (n+1) (.params s pub acc) l =
  if eY l [aV]=true∧acc.length=0 then LD n s pub acc l
  else (dJ l).bind fun b l=>(fP l).bind fun p l=>if eY l [fL]=true then bn n (.params s pub (acc ++ [.mk 5 p b []])) l.tail else LD n s pub (acc ++ [.mk 5 p b []]) l:=rfl
theorem GL {s:ByteArray} {m:Int} (h0:0≤m) (h1:m≤11) {b:Nd} {t1 t2:Tk} {l1 l2 r:List Tk} (k1:Is t1 aV) (k2:Is t2 (jh (decide (m % 2=1)))) (k3:Fits (NC m) l1) (hg:eY (l2++r) [iJ]=false) (hb:Rd .block (l2++r) (.got b r)) :
  ∀ (ps acc:List Nd) (l:List Tk) (i:Nat),(∀ y∈ps,fC y∧y.kd=5)→(i=0↔acc.length=0)→(match ps with|[]=>i=0|_=>True)→Fits (if 0<i then (uX ps i).tail else uX ps i) l→
  Rd (.params s (if 2≤m % 4 then 2 else 0) acc) (l++t1::t2::(l1++(l2++r))) (.got (.mk 4 s m (acc++(ps ++ [b]))) r):=by
 intro ps;induction ps with
 | nil=>
  intro acc l i _ hi h00 hl;have hi0:i=0:=h00;subst hi0;obtain rfl:l=[]:=Fits.nil hl;refine zB hb fun n a=>?_
  rw [wW,List.nil_append,if_pos ⟨iG k1,hi.1 rfl⟩,DI h0 h1 k1 k2 k3 hg a];rfl
 | cons y ps ih=>
  intro acc l i hp hi _ hl;obtain⟨hY,h5⟩:=hp y (by simp);obtain⟨kd,ty,my,ky⟩:=y;have hk5:kd=5:=h5;subst hk5;have hf:=hY.form;cases hf with
  | param ht g0 g1=>
   have hl2:Fits (jh (decide (my=1))::ty::uX ps (i+1)) l:=by
    by_cases hi1:0<i
    ·rw [if_pos hi1,uX,if_pos hi1] at hl;exact hl
    ·rw [if_neg hi1,uX,if_neg hi1] at hl;exact hl
   obtain⟨u1,q,rfl,h6,h7⟩:=Fits.cons hl2;obtain⟨u2,q,rfl,h8,h9⟩:=Fits.cons h7
   have hno:¬ (eY (u1::u2::(q++t1::t2::(l1++(l2++r)))) [aV]=true∧acc.length=0):=by
    rintro ⟨h,-⟩;rw [dS h6 (by cases decide (my=1)<;>decide)] at h;cases h
   cases ps with
   | nil=>
    obtain rfl:q=[]:=Fits.nil h9;refine zB hb fun n a=>?_
    have e:(u1::u2 :: [])++t1::t2::(l1++(l2++r))=u1::u2::([]++t1::t2::(l1++(l2++r))):=rfl;rw [e,wW,if_neg hno,nJ h6,xH g0 g1];show (fP (u2::t1::t2::(l1++(l2++r)))).bind _=_
    rw [kW h8 ht];show (if eY (t1::t2::(l1++(l2++r))) [fL]=true then _ else _)=_
    rw [dS k1,if_neg (by decide),DI h0 h1 k1 k2 k3 hg a];simp
   | cons z ps=>
    rw [uX,if_pos (Nat.succ_pos i)] at h9;obtain⟨u3,q,rfl,h10,h11⟩:=Fits.cons h9;have hrec:=ih (acc ++ [.mk 5 ty my []]) q (i+1) (fun w hw=>hp w (by simp at hw ⊢;exact .inr hw)) ⟨fun h=>absurd h (by omega),fun h=>by simp at h⟩ trivial (by rw [if_pos (Nat.succ_pos i),uX,if_pos (Nat.succ_pos i)];exact h11);refine zB hrec fun n a=>?_
    have e:(u1::u2::u3::q)++t1::t2::(l1++(l2++r))=u1::u2::((u3::q)++t1::t2::(l1++(l2++r))):=rfl;rw [e,wW,if_neg hno,nJ h6,xH g0 g1];show (fP (u2::u3::(q++t1::t2::(l1++(l2++r))))).bind _=_
    rw [kW h8 ht];show (if eY (u3::(q++t1::t2::(l1++(l2++r)))) [fL]=true then bn n (.params s _ (acc ++ [.mk 5 ty my []])) (q++t1::t2::(l1++(l2++r))) else _)=_
    rw [iG h10,if_pos rfl,a];simp
theorem Qv (b:Nd) (hr:tN b) (hX:fC b) (h6:b.kd=6):∃ ws,(qH b).2=r_::ws:=by
 obtain⟨kd,t,m,l⟩:=b;have hk6:kd=6:=h6;subst hk6;have hf:=hX.form;cases hf with
 | block hl=>exact⟨_,Lt fun y hy=>(vN y (hr.kids y hy)).1.2 ⟨hX.kids y hy,hl y hy⟩⟩
theorem ND (x:Nd) (hr:tN x) (hX:fC x) (h4:x.kd=4) (l r:List Tk) (h:Fits (mY x).2 l):Rd .decl (l++r) (.got x r):=by
 obtain⟨kd,t,m,ks⟩:=x;have hk4:kd=4:=h4;subst hk4;have hk:=hr.kids;have iI:=hX.kids;have hf:=hX.form;cases hf with
 | @proc _ _ ps b ht h0 h1 hp hb=>
  have hps:∀ y∈ps,fC y∧y.kd=5:=fun y hy=>⟨iI y (by simp [hy]),hp y hy⟩
  rw [Qs ht h0 h1 hps] at h;obtain⟨l1,l2,rfl,h4,h5⟩:=Fits.app h;obtain⟨t1,q,rfl,h6,h7⟩:=Fits.cons h5;obtain⟨t2,q,rfl,h8,h9⟩:=Fits.cons h7;obtain⟨t3,q,rfl,h10,h11⟩:=Fits.cons h9;obtain⟨l3,l4,rfl,h12,h13⟩:=Fits.app h11;obtain⟨t4,q,rfl,h14,h15⟩:=Fits.cons h13;obtain⟨t5,q,rfl,h16,h17⟩:=Fits.cons h15;obtain⟨l5,l6,rfl,h18,h19⟩:=Fits.app h17;have hrb:=hk b (by simp);have WI:=iI b (by simp);have hbb:Rd .block (l6++r) (.got b r):=(UB b hrb WI).2 hb l6 r h19
  have hgv:eY (l6++r) [iJ]=false:=by
   obtain⟨ws,e⟩:=Qv b hrb WI hb;rw [e] at h19;obtain⟨u,q,rfl,h20,-⟩:=Fits.cons h19;exact dS h20
  have hpar:=GL (s:=t) h0 h1 h14 h16 h18 hgv hbb ps [] l3 0 hps ⟨fun _=>rfl,fun _=>rfl⟩ (by cases ps<;>trivial) h12
  have ab1:Rd (.proc (if 2≤m % 4 then 2 else 0)) (t2::t3::(l3++t4::t5::(l5++(l6++r)))) (.got (.mk 4 t m (ps ++ [b])) r):=
   zB hpar fun n a=>by
    rw [bn,kW h8 ht];show (dU dh (t3::(l3++t4::t5::(l5++(l6++r))))).bind _=_
    rw [iH h10];exact a
  have e:(l1++t1::t2::t3::(l3++t4::t5::(l5++l6)))++r=l1++t1::(t2::t3::(l3++t4::t5::(l5++(l6++r)))):=by simp
  obtain⟨L,hL,hp1,hp2⟩:=JB h4 (ts:=t2::t3::(l3++t4::t5::(l5++(l6++r)))) (JC h6 (show qh≠rL by decide));rw [e,hL];refine zB ab1 fun n a=>?_
  rw [bn];simp only [hp1,hp2];rw [iG h6,if_pos rfl];have e2:(if decide (2≤m % 4)=true then (2:Int) else 0)=if 2≤m % 4 then 2 else 0:=by simp
  rw [e2];exact a
def A7 (x:Nd):List ByteArray:=if x.kd=2 then [kz,x.tx,aW] else if x.kd=3 then (rJ x).2 else (mY x).2
def t_:List Nd→List ByteArray
 | []=>[]
 | x::r=>A7 x++t_ r
theorem GM:∀ (l:List Nd) (d:Bool),(∀ y∈l,tN y)→(iP l d).1=true→(iP l d).2=t_ l:=by
 intro l;induction l with
 | nil=>intro d _ _;rfl
 | cons x r ih=>
  intro d hr h;rw [iP] at h ⊢;rw [aX] at h;rw [pz h.1,ih _ (fun y hy=>hr y (by simp [hy])) h.2,t_];congr 1
  have h1:=h.1;unfold xI at h1 ⊢;unfold A7;split
  ·rename_i h2
   rw [if_pos h2,aX,aX,bK,bK] at h1;rw [dZ h1.1,dZ h1.2.1];rfl
  ·rename_i h2
   rw [if_neg h2] at h1;split
   ·rfl
   ·rename_i h3
    rw [if_neg h3,aX,bK] at h1;rw [dZ h1.1]
theorem DJ (x:Nd) (hr:tN x) (hX:fC x) (h:x.kd=3∨x.kd=4):∃ w ws,A7 x=w::ws∧w≠kz:=by
 have GN:∀ (m:Int) (w:ByteArray) (ws:List ByteArray),w≠kz→∃ w2 ws2,rK m++w::ws=w2::ws2∧w2≠kz:=by
  intro m w ws hw;unfold rK;split
  ·exact⟨_,_,rfl,by decide⟩
  ·exact⟨_,_,rfl,hw⟩
 have hlab:∀ b,jh b≠kz:=by intro b;cases b<;>decide
 obtain⟨kd,t,m,ks⟩:=x;have iI:=hX.kids;have hf:=hX.form;unfold A7;rw [if_neg (by rcases h with h|h<;>omega)];rcases h with h|h
 ·rw [if_pos h]
  have hk3:kd=3:=h;subst hk3;cases hf with
  | var ht h0 h1=>rw [WG ht h0 h1];exact GN _ _ _ (hlab _)
  | @array _ _ y ht h0 h1 hy=>
   rw [WH ht h0 h1 hy ((lZ _ 0 (hr.kids _ (by simp))).2 ⟨iI _ (by simp),by rw [hy];exact⟨by decide,by decide⟩⟩)];exact GN _ _ _ (hlab _)
 ·rw [if_neg (by omega)]
  have hk4:kd=4:=h;subst hk4;cases hf with
  | @proc _ _ ps b ht h0 h1 hp hb=>
   rw [Qs ht h0 h1 fun y hy=>⟨iI y (by simp [hy]),hp y hy⟩];exact GN _ _ _ (by decide)
theorem NF (x:Nd) (hr:tN x) (hX:fC x) (h:x.kd=3∨x.kd=4) (l r:List Tk) (hf:Fits (A7 x) l):Rd .decl (l++r) (.got x r):=by
 unfold A7 at hf;rw [if_neg (by rcases h with h|h<;>omega)] at hf;rcases h with h|h
 ·rw [if_pos h] at hf
  exact Qu x hr hX h l r hf
 ·rw [if_neg (by omega)] at hf
  exact ND x hr hX h l r hf
theorem JD {s:ByteArray}:∀ (b acc:List Nd) (l:List Tk),(∀ y∈b,tN y∧fC y∧(y.kd=3∨y.kd=4))→Fits (t_ b) l→Rd (.decls s acc) l (.got (.mk 1 s 0 (acc++b)) []):=by
 intro b;induction b with
 | nil=>
  intro acc l _ h;obtain rfl:=Fits.nil h;exact WC fun n=>by rw [bn,if_pos (show ([]:List Tk).length=0 from rfl),List.append_nil]
 | cons x r ih=>
  intro acc l hb h;obtain⟨h1,h2,h3⟩:=hb x (by simp);rw [t_] at h;obtain⟨l1,l2,rfl,h4,h5⟩:=Fits.app h;have hrec:=ih (acc ++ [x]) l2 (fun y hy=>hb y (by simp [hy])) h5;have hx:=NF x h1 h2 h3 l1 l2 h4
  have hne:¬ (l1++l2).length=0:=by
   obtain⟨w,ws,e,-⟩:=DJ x h1 h2 h3;rw [e] at h4;obtain⟨u,q,rfl,-,-⟩:=Fits.cons h4;simp
  refine WE hx hrec fun n a c=>?_
  rw [bn,if_neg hne,a];show bn n (.decls s (acc ++ [x])) l2=_
  rw [c,List.append_assoc];rfl
theorem EN {s:ByteArray} {b:List Nd} (hb:∀ y∈b,tN y∧fC y∧(y.kd=3∨y.kd=4)):∀ (a acc:List Nd) (l:List Tk),(∀ y∈a,fC y∧y.kd=2)→Fits (t_ (a++b)) l→Rd (.imports s acc) l (.got (.mk 1 s 0 (acc++(a++b))) []):=by
 intro a;induction a with
 | nil=>
  intro acc l _ h;rw [List.nil_append] at h ⊢;have hd:=JD (s:=s) b acc l hb h
  have hno:eY l [kz]=false:=by
   cases b with
   | nil=>
    obtain rfl:=Fits.nil h;rfl
   | cons x r=>
    obtain⟨h1,h2,h3⟩:=hb x (by simp);obtain⟨w,ws,e,hw⟩:=DJ x h1 h2 h3;rw [t_,e] at h;obtain⟨u,q,rfl,h4,-⟩:=Fits.cons h;exact dS h4 hw
  refine zB hd fun n c=>?_
  rw [bn,hno,if_neg (by decide),c]
 | cons x r ih=>
  intro acc l ha h;obtain⟨hX,h2⟩:=ha x (by simp);obtain⟨kd,t,m,ks⟩:=x;have hk2:kd=2:=h2;subst hk2;have hf:=hX.form;cases hf with
  | imp ht=>
   rw [List.cons_append,t_] at h;unfold A7 at h;rw [if_pos h2] at h;obtain⟨t1,q,rfl,h4,h5⟩:=Fits.cons h;obtain⟨t2,q,rfl,h6,h7⟩:=Fits.cons h5;obtain⟨t3,q,rfl,h8,h9⟩:=Fits.cons h7;have hrec:=ih (acc ++ [.mk 2 t 0 []]) q (fun y hy=>ha y (by simp [hy])) h9;refine zB hrec fun n c=>?_
   rw [bn,iG h4,if_pos rfl];show (fP (t2::t3::q)).bind _=_
   rw [kW h6 ht];show (dU aW (t3::q)).bind _=_
   rw [iH h8];show bn n (.imports s (acc ++ [.mk 2 t 0 []])) q=_
   rw [c];simp
theorem NG (x:Nd) (hr:tN x) (h:(nX x).1=true):(nX x).2=nK::x.tx::aW::t_ x.kids:=by
 obtain⟨k,t,m,l⟩:=x;simp only [nX] at h ⊢;rw [aX,aX,aX,bK,bK] at h;rw [dZ h.1,dZ h.2.1,kJ,GM l false hr.kids h.2.2.2];rfl
theorem Qw (x:Nd) (hr:tN x) (h:(nX x).1=true) (l:List Tk) (hl:Fits (nX x).2 l):Rd .module l (.got x []):=by
 obtain⟨hX,h1⟩:=(GR x hr).1 h;rw [NG x hr h] at hl;obtain⟨k,t,m,ks⟩:=x;have hk1:k=1:=h1;subst hk1;have hf:=hX.form;cases hf with
 | @module _ a b ht ha hb=>
  obtain⟨t1,q,rfl,h4,h5⟩:=Fits.cons hl;obtain⟨t2,q,rfl,h6,h7⟩:=Fits.cons h5;obtain⟨t3,q,rfl,h8,h9⟩:=Fits.cons h7;have hi:=EN (s:=t) (b:=b) (fun y hy=>⟨hr.kids y (by simp [hy]),hX.kids y (by simp [hy]),hb y hy⟩) a [] q (fun y hy=>⟨hX.kids y (by simp [hy]),ha y hy⟩) h9;refine zB hi fun n c=>?_
  rw [bn,iH h4];show (fP (t2::t3::q)).bind _=_
  rw [kW h6 ht];show (dU aW (t3::q)).bind _=_
  rw [iH h8];exact c
end prt
open prt bH in
theorem JE (x:Nd) (hr:tN x) (h:(kX x).2=0):aZ (kX x).1=(x,0,0):=by
 unfold kX at h ⊢;by_cases hw:(d_ 16 x 0).1=false
 ·rw [if_pos hw] at h;exact absurd (show (1:Int)=0 from h) (by decide)
 ·rw [if_neg hw] at h ⊢
  by_cases hm:(nX x).1=false
  ·rw [if_pos hm] at h;exact absurd (show (2:Int)=0 from h) (by decide)
  ·rw [if_neg hm] at h ⊢
   have hm1:(nX x).1=true:=by simpa using hm
   have hw1:(d_ 16 x 0).1=true:=by simpa using hw
   split at h
   ·exact absurd (show (1:Int)=0 from h) (by decide)
   ·rename_i hlen
    rw [if_neg hlen];rw [JF] at hlen ⊢
    have hg:∀ w∈(nX x).2.map fun s=>s.data.toList,su w:=by
     intro w hw2;obtain⟨y,hy,rfl⟩:=List.mem_map.1 hw2;exact Qx x hr y hy
    have hs:=GU _ hg (by omega);show aZ (⟨(gQ ((nX x).2.map fun s=>s.data.toList)).toArray⟩:ByteArray)=_
    obtain⟨S,hS⟩:∃ S:ByteArray,(⟨(gQ ((nX x).2.map fun s=>s.data.toList)).toArray⟩:ByteArray)=S:=⟨_,rfl⟩;have hSl:S.data.toList=gQ ((nX x).2.map fun s=>s.data.toList):=by rw [←hS]
    rw [hS];have hfit:=GV S (nX x).2 0 (by rw [List.drop_zero];exact hSl);have hrd:=Qw x hr hm1 _ hfit;unfold aZ;rw [hSl,hs];simp only [if_true];rw [hrd.at (bZ.EO _ _ _ (by simp [n_,NT.rank]))];simp only
    rw [if_pos hw1];rfl
end Go.Proofs.YtpcihajmcejliacGreatDoor
namespace Go.Proofs.YtpcihajmcejliacGreatDoor
open Go.RowKit
namespace prt
open bH bZ ofm pU
theorem NH:∀ (x:Nd),fC x→tN x:=by
 refine gz fun k t m l ih hX=>?_
 have hf:=hX.form;refine .mk ?_ fun y hy=>ih y hy (hX.kids y hy)
 cases hf<;>first|omega|decide
end prt
end Go.Proofs.YtpcihajmcejliacGreatDoor
namespace Go.Proofs.YtpcihajmcejliacGreatDoor
open Go.RowKit Go.WideMaps Go.Maps
def oC (L:List (ByteArray×Int)) (s:ByteArray):Option Int:=match L with
 | []=>none
 | (x,v)::r=>if x=s then some v else oC r s
def ig (L:List (ByteArray×Int)):List (List UInt8):=L.map fun p=>p.1.data.toList
namespace uY
theorem keyed:Keyed Tryz.prog 9:=string_keyed Tryz.underlying9
theorem ab2 (w:World):(zeroValue 3).run Tryz.prog w=.ok (.int .i64 0) w:=by kernel_rfl
theorem Qy (L:List (ByteArray×Int)) (x s:ByteArray) (v:Int):oC (L ++ [(x,v)]) s=match oC L s with
  | some c=>some c
  | none=>if x=s then some v else none:=by
 induction L with
 | nil=>simp [oC]
 | cons p r ih=>
  obtain⟨y,c⟩:=p;simp only [List.cons_append,oC];by_cases hy:y=s
  ·simp [hy]
  ·rw [if_neg hy,if_neg hy,ih]
theorem A8 (L:List (ByteArray×Int)) (s:ByteArray):(oC L s).isSome=(ig L).contains s.data.toList:=by
 induction L with
 | nil=>rfl
 | cons p r ih=>
  obtain⟨y,c⟩:=p;simp only [oC,ig,List.map_cons,List.contains_cons];by_cases hy:y=s
  ·simp [hy]
  ·rw [if_neg hy,ih]
   have:¬ s.data.toList=y.data.toList:=fun e=>hy (ByteArray.ext (Array.toList_inj.1 e.symm))
   have h2:(s.data.toList == y.data.toList)=false:=beq_eq_false_iff_ne.2 this;rw [h2,Bool.false_or];rfl
def pG (w:World) (b:Nat) (L:List (ByteArray×Int)):Prop:=
 ∃ (D:DataW Unit),w.ownsMap Tryz.prog 9 (plainElem Tryz.prog 3) b L.length D∧Maps.size D=L.length∧
  ∀ s:ByteArray,has D (.string s.data.toList)=(oC L s).isSome∧∀ c:Int,D.atKey (.string s.data.toList) (.lit (.int .i64 0))=.lit (.int .i64 c)→c=(oC L s).getD 0
theorem pG.lt {w:World} {b:Nat} {L:List (ByteArray×Int)} (h:pG w b L):b<w.heap.size:=by
 obtain⟨D,h1,_⟩:=h;exact h1.lt
theorem pG.aU {w w':World} {b:Nat} {L:List (ByteArray×Int)} (h:pG w b L) {S:Nat→Prop} (hC:aB S w w') (hn:¬ S b):pG w' b L:=by
 obtain⟨D,⟨es,clock,hb,F,hs,hD⟩,h2⟩:=h;exact⟨D,⟨es,clock,(hC.block b (Array.getElem?_eq_some_iff.1 hb).1 hn).trans hb,F,hs,hD⟩,h2⟩
theorem pG.drewN {w:World} {b:Nat} {L:List (ByteArray×Int)} (h:pG w b L) (n:Nat):pG (w.drewN n) b L:=h
theorem pG.made (w:World):pG (w.alloc (.map #[] 0)) w.heap.size []:=by
 refine⟨.map [],World.ownsMap_made _ _ _ _,rfl,fun s=>⟨rfl,fun c h=>?_⟩⟩
 rw [WideAt.atKey_none _ (by simp)] at h;simp at h
 simp [oC];exact h.symm
theorem pG.put {w:World} {b:Nat} {L:List (ByteArray×Int)} (h:pG w b L) {x:ByteArray} {v:Int} (hx:oC L x=none) (hs:x.size≤maxLen) (hl:L.length<maxLen) (hv0:0≤v) (hv:v<9223372036854775808) :
  ∃ w',(Instr.mapUpdate 126 (.map (some b)) (.string x) (.int .i64 v)).run Tryz.prog w=.ok () w'∧pG w' b (L ++ [(x,v)])∧w.grownBy w' (some b):=by
 obtain⟨D,hown,hsz,h2⟩:=h;have hkey:=keyOf_string_mk (P:=Tryz.prog) (k:=9) Tryz.underlying9 hs
 have hwf:(Lit.int .i64 v).wf=true:=by
  simp only [Lit.wf,Bool.and_eq_true,decide_eq_true_eq,show IntKind.i64.min=-9223372036854775808 from rfl,show IntKind.i64.max=9223372036854775807 from rfl];omega
 obtain⟨w',hrun,hM,hg⟩:=hown.update (t:=126) keyed Tryz.underlying126 hl hkey (plainElem_int (P:=Tryz.prog) (q:=.i64) Tryz.underlying3 (a:=v) hwf);have hk:WideAt.IsKeyLit (.string x.data.toList):=by trivial
 refine⟨w',hrun,⟨_,by rw [List.length_append];exact hM,?_,fun s=>?_⟩,hg⟩
 ·rw [size_put (hown.tidy keyed),(h2 x).1,hx,hsz]
  simp
 rw [Qy];by_cases e:x=s
 ·subst e
  rw [has_put_same hown.isMap hk,hx];refine⟨by simp,fun c hc=>?_⟩
  rw [atKey_put_same hown.isMap hk] at hc;simp at hc ⊢
  exact hc.symm
 ·have hne:(Lit.string s.data.toList)≠.string x.data.toList:=by
   intro h;exact e (ByteArray.ext (Array.ext' (by simpa using h.symm)))
  rw [has_put_other hne,(h2 s).1];refine⟨by cases oC L s<;>simp [e],fun c hc=>?_⟩
  rw [atKey_put_other hne] at hc;rw [(h2 s).2 c hc];cases oC L s<;>simp [e]
theorem pG.look {w:World} {b:Nat} {L:List (ByteArray×Int)} (h:pG w b L) {s:ByteArray} (hs:s.size≤maxLen) :
  (Instr.lookup 126 (.map (some b)) (.string s) true).run Tryz.prog w=.ok (.tuple #[.int .i64 ((oC L s).getD 0),.bool (oC L s).isSome]) w:=by
 obtain⟨D,hown,-,h2⟩:=h;have hkey:=keyOf_string_mk (P:=Tryz.prog) (k:=9) Tryz.underlying9 hs;obtain⟨v,ps,hrun2,hv⟩:=hown.look_ok (t:=126) keyed Tryz.underlying126 (ab2 w) (plainElem_int (P:=Tryz.prog) (q:=.i64) Tryz.underlying3 (a:=0) (by decide)) hkey;obtain⟨c2,rfl,hc2,-⟩:=plainElem_int_inv Tryz.underlying3 hv;simp only [Prod.mk.injEq] at hc2;rw [(h2 s).2 c2 hc2.1,(h2 s).1] at hrun2;exact hrun2
theorem pG.len {w:World} {b:Nat} {L:List (ByteArray×Int)} (h:pG w b L) (ty:TypeId):(Builtin.len_ #[126] ty #[.map (some b)]).run Tryz.prog w=.ok (.int .i64 (L.length:Nat)) w:=by
 obtain⟨D,hown,hsz,-⟩:=h;rw [←hsz];exact hown.len (t:=126) Tryz.underlying126 ty
def A_ (c p:Int):List PanicEntry:=[{ v:=.iface 225 (.agg #[.int .i64 c,.int .i64 p]),recovered:=false }]
set_option maxRecDepth 100000 in
theorem fO (c p:Int) (w:World):Calls Tryz.prog 112 #[.bool true,.int .i64 c,.int .i64 p] w fun e w'=>e=.returned (.tuple #[])∧w'=w:=by
 go_enter Tryz.func112,Tryz.ntmps112
 go_wp2_with fail
 go_end0
 exact⟨rfl,rfl⟩
set_option maxRecDepth 100000 in
theorem iq (c p:Int) (w:World):Calls Tryz.prog 112 #[.bool false,.int .i64 c,.int .i64 p] w fun e w'=>e=.panicked (A_ c p)∧w'=w:=by
 go_enter Tryz.func112,Tryz.ntmps112
 go_wp2_with fail
 exact⟨rfl,rfl,rfl⟩
end uY
end Go.Proofs.YtpcihajmcejliacGreatDoor
namespace Go.Proofs.YtpcihajmcejliacGreatDoor
open Go.RowKit Go.WideMaps Go.Maps
def Ba:Value:=.agg #[.string ⟨#[]⟩,.slice none 0 0,.slice none 0 0]
namespace uf
def RV (v:Value):Option (DataW Value×List MemPlace):=some (.held v,[])
def zU (w:World) (b n:Nat) (f:ByteArray→Option Value):Prop:=
 ∃ (D:DataW Value),w.ownsMap Tryz.prog 9 RV b n D∧∀ s:ByteArray,has D (.string s.data.toList)=(f s).isSome∧D.atKey (.string s.data.toList) (.held Ba)=.held ((f s).getD Ba)
theorem zU.aU {w w':World} {b n:Nat} {f:ByteArray→Option Value} (h:zU w b n f) {S:Nat→Prop} (hC:aB S w w') (hn:¬ S b):zU w' b n f:=by
 obtain⟨D,⟨es,clock,hb,F,hs,hD⟩,h2⟩:=h;exact⟨D,⟨es,clock,(hC.block b (Array.getElem?_eq_some_iff.1 hb).1 hn).trans hb,F,hs,hD⟩,h2⟩
theorem zU.made (w:World):zU (w.alloc (.map #[] 0)) w.heap.size 0 (fun _=>none):=by
 refine⟨.map [],World.ownsMap_made _ _ _ _,fun s=>⟨rfl,?_⟩⟩
 rw [WideAt.atKey_none _ (by simp)];rfl
theorem NI (w:World):(zeroValue 37).run Tryz.prog w=.ok Ba w:=by kernel_rfl
theorem zU.put {w:World} {b n:Nat} {f:ByteArray→Option Value} (h:zU w b n f) {x:ByteArray} (v:Value) (hs:x.size≤maxLen) (hn:n<maxLen) :
  ∃ w',(Instr.mapUpdate 211 (.map (some b)) (.string x) v).run Tryz.prog w=.ok () w'∧zU w' b (n+1) (fun s=>if s=x then some v else f s)∧w.grownBy w' (some b):=by
 obtain⟨D,hown,h2⟩:=h;have hkey:=keyOf_string_mk (P:=Tryz.prog) (k:=9) Tryz.underlying9 hs;obtain⟨w',hrun,hM,hg⟩:=hown.update (t:=211) uY.keyed Tryz.underlying211 hn hkey (show RV v=some (.held v,[]) from rfl);have hk:WideAt.IsKeyLit (.string x.data.toList):=by trivial
 refine⟨w',hrun,⟨_,hM,fun s=>?_⟩,hg⟩
 show has _ _=(if s=x then some v else f s).isSome∧_=DataW.held ((if s=x then some v else f s).getD Ba)
 by_cases e:s=x
 ·subst e
  rw [if_pos rfl,has_put_same hown.isMap hk,atKey_put_same hown.isMap hk];exact⟨rfl,rfl⟩
 ·have hne:(Lit.string s.data.toList)≠.string x.data.toList:=fun h=>e (ByteArray.ext (Array.toList_inj.1 (by injection h)))
  rw [if_neg e,has_put_other hne,atKey_put_other hne];exact h2 s
set_option maxRecDepth 100000 in
theorem zU.look {w:World} {b n:Nat} {f:ByteArray→Option Value} (h:zU w b n f) {s:ByteArray} (hs:s.size≤maxLen) :
  (Instr.lookup 211 (.map (some b)) (.string s) true).run Tryz.prog w=.ok (.tuple #[(f s).getD Ba,.bool (f s).isSome]) w:=by
 obtain⟨D,hown,h2⟩:=h;have hz0:=NI w;obtain⟨z,hzz⟩:∃ z,Ba=z:=⟨_,rfl⟩;rw [hzz] at h2 hz0 ⊢;have hz:RV z=some (.held z,[]):=rfl;have hkey:=keyOf_string_mk (P:=Tryz.prog) (k:=9) Tryz.underlying9 hs;obtain⟨v,ps,hrun,hv⟩:=hown.look_ok (t:=211) uY.keyed Tryz.underlying211 hz0 hz hkey;rw [(h2 s).2] at hv;rw [(h2 s).1] at hrun;unfold RV at hv;injection hv with hv
 injection hv with hv _
 injection hv with hv
 subst hv;exact hrun
def sD (W w:World) (b n:Nat) (K:List (ByteArray×bf)):Prop:=
 ∃ f,zU w b n f∧∀ s,match dH K s with
  | none=>f s=none
  | some x=>∃ v,f s=some v∧kL W x v
theorem sD.aU {W w w':World} {b n:Nat} {K:List (ByteArray×bf)} (h:sD W w b n K) {S:Nat→Prop} (hC:aB S w w') (hn:¬ S b):sD W w' b n K:=by
 obtain⟨f,h1,h2⟩:=h;exact⟨f,h1.aU hC hn,h2⟩
theorem sD.base {W W' w:World} {b n:Nat} {K:List (ByteArray×bf)} (h:sD W w b n K) (hE:Ext W W'):sD W' w b n K:=by
 obtain⟨f,h1,h2⟩:=h;refine⟨f,h1,fun s=>?_⟩
 have:=h2 s;cases hk:dH K s with
 | none=>rw [hk] at this;exact this
 | some x=>rw [hk] at this;obtain⟨v,h3,h4⟩:=this;exact⟨v,h3,h4.ext hE⟩
theorem sD.made (W w:World):sD W (w.alloc (.map #[] 0)) w.heap.size 0 []:=⟨_,zU.made w,fun _=>rfl⟩
theorem Bc (K:List (ByteArray×bf)) (x s:ByteArray) (g:bf):dH (K ++ [(x,g)]) s=(dH K s).or (if x=s then some g else none):=by
 induction K with
 | nil=>simp [dH]
 | cons p r ih=>
  obtain⟨y,c⟩:=p;simp only [List.cons_append,dH];by_cases hy:y=s
  ·simp [hy]
  ·rw [if_neg hy,if_neg hy,ih]
theorem sD.put {W w:World} {b n:Nat} {K:List (ByteArray×bf)} (h:sD W w b n K) {x:ByteArray} {v:Value} {g:bf} (hv:kL W g v) (hx:dH K x=none∨dH K x=some g) (hs:x.size≤maxLen) (hn:n<maxLen) :
  ∃ w',(Instr.mapUpdate 211 (.map (some b)) (.string x) v).run Tryz.prog w=.ok () w'∧sD W w' b (n+1) (K ++ [(x,g)])∧w.grownBy w' (some b):=by
 obtain⟨f,h1,h2⟩:=h;obtain⟨w',hr,hM,hg⟩:=h1.put v hs hn;refine⟨w',hr,⟨_,hM,fun s=>?_⟩,hg⟩
 rw [Bc];have h3:=h2 s;by_cases e:s=x
 ·subst e
  rw [if_pos rfl];rcases hx with hx|hx
  ·rw [hx];exact⟨v,if_pos rfl,hv⟩
  ·rw [hx];exact⟨v,if_pos rfl,hv⟩
 ·rw [if_neg (fun h=>e h.symm),Option.or_none]
  cases hk:dH K s with
  | none=>rw [hk] at h3;simpa only [if_neg e] using h3
  | some y=>rw [hk] at h3;simpa only [if_neg e] using h3
theorem sD.look {W w:World} {b n:Nat} {K:List (ByteArray×bf)} (h:sD W w b n K) {s:ByteArray} (hs:s.size≤maxLen) :
  ∃ v,(Instr.lookup 211 (.map (some b)) (.string s) true).run Tryz.prog w=.ok (.tuple #[v,.bool (dH K s).isSome]) w∧kL W ((dH K s).getD kC) v:=by
 obtain⟨f,h1,h2⟩:=h;have hl:=h1.look hs;have h3:=h2 s;cases hk:dH K s with
 | none=>
  rw [hk] at h3;rw [h3] at hl;exact⟨Ba,hl,⟨none,0,none,0,rfl,fun j h=>(by cases h),fun j h=>(by cases h),by decide,Nat.le_refl _,by decide,Nat.le_refl _,by decide⟩⟩
 | some x=>
  rw [hk] at h3;obtain⟨v,h4,h5⟩:=h3;rw [h4] at hl;exact⟨v,hl,h5⟩
end uf
end Go.Proofs.YtpcihajmcejliacGreatDoor
