/- The walks of the printer's asked, place, stat, block. -/
import Derived.StillTailTactics
import Derived.Test.YtpcihajmcejliacGreatDoorPrtE
namespace Go.Proofs.YtpcihajmcejliacGreatDoor
open Go.RowKit
namespace prt
open bH
def Ae (p:PO):PO:=(ah [dh]).then (p.then (ah [aV]))
theorem Vl (p:PO):(Ae p).2.length≤p.2.length+2:=by
 unfold Ae;rw [tj];have h:=jK p (ah [aV]);have h2:(ah [aV]).2.length=1:=rfl;simp only [List.length_cons,List.length_nil];omega
theorem MC {w:World} {x:Nd} {k m:Int} {t:ByteArray} {s:Value} (h:nO w x (.agg #[.int .i64 k,.string t,.int .i64 m,s])):x.kd=k:=by
 cases x with
 | mk k0 t0 m0 l0=>
  rw [lJ] at h;obtain⟨a,c,e,-⟩:=h;simp only [Value.agg.injEq,Array.mk.injEq,List.cons.injEq,Value.int.injEq] at e;show k0=k
  exact e.1.2.symm
theorem FI:∀ l,(vK l).length=l.length
 | []=>rfl
 | x::r=>by rw [vK,List.length_cons,List.length_cons,FI r]
theorem FK:∀ l,(Aj l).length=l.length
 | []=>rfl
 | x::r=>by rw [Aj,List.length_cons,List.length_cons,FK r]
theorem IE:∀ (l:List Nd) (j:Nat) (hj:j<l.length),(Aj l).drop j=rZ l[j]::(Aj l).drop (j+1)
 | x::r,0,_=>by rw [Aj];rfl
 | x::r,j+1,hj=>by
  rw [Aj,List.drop_succ_cons,List.drop_succ_cons,IE r j (by simpa using hj)];rfl
def xw (k:Int):Bool:=decide (k=16) || decide (k=17)
set_option maxRecDepth 100000 in
theorem v_ (k m:Int) (t:ByteArray) (a:Option Addr) (n c:Nat) (u:World) :
  Calls Tryz.prog 280 #[.agg #[.int .i64 k,.string t,.int .i64 m,.slice a n c]] u (zh (xw k) (.tuple #[]) u):=by
 have HE:=Z_ ((aB.refl (fun _=>False) u).alloc (.cells #[.int .i64 k,.string t,.int .i64 m,.slice a n c] 24));have HK:=Z_ (aJ.made u #[.int .i64 k,.string t,.int .i64 m,.slice a n c] 24);obtain⟨Nb,hNb⟩:∃ Nb,u.heap.size=Nb:=⟨_,rfl⟩;rw [hNb] at HK;by_cases h1:k=16
 ·subst h1
  go_enter Tryz.func280,Tryz.ntmps280
  go_upto_region 1 with (fail)
  try rw [hNb]
  generalize u.alloc (.cells #[.int .i64 16,.string t,.int .i64 m,.slice a n c] 24)=u0 at *;clear hNb;have hbc:=HK.out.cell;go_wp2_with fail
  refine(gq true _).mono ?_
  rintro e w9 ⟨rfl,rfl⟩;simp only [if_true];go_wp2_with fail
  go_end0
  exact⟨rfl,HE.out⟩
 ·by_cases h2:k=17
  ·subst h2
   go_enter Tryz.func280,Tryz.ntmps280
   go_upto_region 1 with (fail)
   try rw [hNb]
   generalize u.alloc (.cells #[.int .i64 17,.string t,.int .i64 m,.slice a n c] 24)=u0 at *;clear hNb;have hbc:=HK.out.cell;go_wp2_with fail
   refine(gq true _).mono ?_
   rintro e w9 ⟨rfl,rfl⟩;simp only [if_true];go_wp2_with fail
   go_end0
   exact⟨rfl,HE.out⟩
  ·have hb:xw k=false:=by unfold xw;simp [h1,h2]
   rw [hb];have b16:(k == 16)=false:=beq_eq_false_iff_ne.2 h1;have b17:(k == 17)=false:=beq_eq_false_iff_ne.2 h2;clear h1 h2 hb;go_enter Tryz.func280,Tryz.ntmps280
   go_upto_region 1 with (fail)
   try rw [hNb]
   generalize u.alloc (.cells #[.int .i64 k,.string t,.int .i64 m,.slice a n c] 24)=u0 at *;clear hNb;have hbc:=HK.out.cell;go_wp2_with fail
   refine(gq false _).mono ?_
   rintro e w9 ⟨rfl,rfl⟩;simp only [Bool.false_eq_true,if_false];go_wp2_with fail
   exact⟨rfl,rfl,HE.out⟩
set_option maxRecDepth 100000 in
set_option maxHeartbeats 4000000 in
theorem tq {W u:World} {S:Nat} {row:Value} {acc:List ByteArray} {x:Nd} {v:Value} (hx:ExC W S x) (h:PW W u S row acc) (hnd:nO W x v) (hm:acc.length+12*dL x+2≤1000000) :
  Calls Tryz.prog 279 #[.pointer (some ⟨S,0,none⟩),v] u (wO W u S row acc (Ae (fJ 0 x))):=by
 obtain⟨k,t,m,a,N,cc,rfl⟩:=yc hnd;have HX:=Z_ (fun u row acc h=>hx _ u row acc 0 h hnd);obtain⟨p,hp⟩:∃ p,fJ 0 x=p:=⟨_,rfl⟩;have hpl:=iL x 0;rw [hp] at hpl HX ⊢;obtain⟨T,hT⟩:∃ T,Ae p=T:=⟨_,rfl⟩;have HT:=Z_ (show PO.then (true,[]) ((ah [dh]).then (p.then ((ah [aV]).then (ah []))))=T by rw [←hT,←fE (ah [aV]),←dP];rfl);rw [hT];have HLEN:=Z_ hm;have HB:=Z_ (PB.made h #[.int .i64 k,.string t,.int .i64 m,.slice a N cc]).nil;obtain⟨Nb,hNb⟩:∃ Nb,u.heap.size=Nb:=⟨_,rfl⟩;rw [hNb] at HB;clear hx hnd hp hT hm h;go_enter Tryz.func279,Tryz.ntmps279
 go_upto_region 1 with (fail)
 try rw [hNb]
 generalize u.alloc (.cells #[.int .i64 k,.string t,.int .i64 m,.slice a N cc] 24)=u0 at *;clear hNb;have hbc:=HB.out.nb.cell;go_wp2_with fail
 clear hbc;refine(bQ HB.out.f.pw [dh] _ rfl 1 rfl (by decide) (by have h9:=HLEN.out;first|omega|(simp at h9 ⊢;omega))).mono ?_
 rintro e w3 ⟨rfl,row3,hF3⟩;replace HB:=Z_ (HB.out.call hF3).assoc;clear hF3;rw [aT] at HT;have iz:=Z_ (HX.out _ _ _ HB.out.f.pw (by have h9:=HLEN.out;first|omega|(simp at h9 ⊢;omega)) (by decide) (by decide));have hbc:=HB.out.nb.cell;go_wp2_with fail
 try clear hbc
 refine iz.out.mono ?_
 rintro e w3 ⟨⟨row3,hF3⟩,he⟩;replace HB:=Z_ (HB.out.call hF3).assoc;clear hF3 iz HX;obtain⟨pb,pw⟩:=p;cases pb with
 | false=>
  obtain rfl:e=_:=he;simp only [Bool.false_eq_true,if_false];go_wp2_with fail
  exact⟨rfl,aG (by rw [←HT.out,di]) HB.out.f⟩
 | true=>
  obtain rfl:e=_:=he;rw [then_ok] at HT;simp only [if_true];go_wp2_with fail
  refine(bQ HB.out.f.pw [aV] _ rfl 1 rfl (by decide) (by have h9:=HLEN.out;first|omega|(simp at h9 ⊢;omega))).mono ?_
  rintro e w3 ⟨rfl,row3,hF3⟩;replace HB:=Z_ (HB.out.call hF3).assoc;clear hF3;rw [aT] at HT;go_wp2_with fail
  go_end0
  exact eU (by rw [←HT.out,fH]) HB.out.f
theorem Vm {t:ByteArray} {m:Int} {n:Nat} {a b c:Int} (h:eH t m n a b c=true):a≤(n:Int)∧(b<0∨(n:Int)≤b):=by
 unfold eH nH at h;simp only [Bool.and_eq_true,Bool.or_eq_true,decide_eq_true_eq] at h;exact⟨h.2.1.2,h.2.2⟩
def StC (W:World) (S:Nat) (x:Nd):Prop:=∀ (v:Value) (u:World) (row:Value) (acc:List ByteArray),PW W u S row acc→nO W x v→acc.length+12*dL x≤1000000→
 Calls Tryz.prog 232 #[.pointer (some ⟨S,0,none⟩),v] u (wO W u S row acc (rZ x))
def BlC (W:World) (S:Nat) (x:Nd):Prop:=∀ (v:Value) (u:World) (row:Value) (acc:List ByteArray),PW W u S row acc→nO W x v→acc.length+12*dL x≤1000000→
 Calls Tryz.prog 183 #[.pointer (some ⟨S,0,none⟩),v] u (wO W u S row acc (qH x))
def bigS (p:PO×PO):Nat:=p.1.2.length+p.2.2.length-min p.1.2.length p.2.2.length+1
theorem yf (p:PO×PO):p.1.2.length+1≤bigS p:=by unfold bigS;omega
theorem FM (p:PO×PO):p.2.2.length+1≤bigS p:=by unfold bigS;omega
def Dy (ks:List (PO×PO)):Nat:=(ks.map bigS).sum
theorem YM:∀ (ks:List (PO×PO)),(bF (ks.map Prod.fst) 0).2.length≤Dy ks
 | []=>by simp [bF,ah,Dy]
 | p::r=>by
  have h:=yf p;simp only [List.map_cons,bF,List.getD_cons_zero,Dy,List.sum_cons];omega
theorem iD (l:List ByteArray) (p:PO):((ah l).then p).2.length=l.length+p.2.length:=tj l p
theorem iV (b:Bool) (p:PO):((bu b).then p).2.length≤p.2.length:=by
 have h:=ng b p;split at h<;>omega
theorem yh {b:Bool} {p:PO} {n:Nat} (h:b=true→p.2.length≤n):((bu b).then p).2.length≤n:=by
 cases b with
 | false=>simp [PO.then,bu]
 | true=>have h2:=iV true p;have h3:=h rfl;omega
theorem SQ (k:Int) (t:ByteArray) (m kd:Int) (ks:List (PO×PO)):(nV k t m kd ks).2.length≤Dy ks+5:=by
 have hf:=YM ks;have SR:(ah [aW]).2.length=1:=rfl
 have hone:∀ (p:PO) (c:List ByteArray),((ah c).then (p.then (ah [aW]))).2.length≤c.length+p.2.length+1:=fun p c=>by
  rw [iD];have:=jK p (ah [aW]);omega
 unfold nV;split
 ·refine yh fun hp=>?_
  obtain⟨-,-,-,h2,h3⟩:=lK hp
  have hl:ks.length=2∨ks.length=3:=by
   split at h3<;>omega
  rcases hl with hl|hl
  ·match ks,hl with
   | [p,q],_=>
    have hq:=yf p;have hq2:=FM q;have e1:=jK (bF ([p,q].map Prod.fst) 0) ((ah [aV]).then ((bF ([p,q].map Prod.snd) 1).then (ah [])));have e2:=jK (bF ([p,q].map Prod.snd) 1) (ah []);rw [iD] at e1;rw [show (if 2 < [p,q].length then (ah [nI]).then (bF ([p,q].map Prod.snd) 2) else ah [])=ah [] from if_neg (by simp),iD,iD];have h7:(bF ([p,q].map Prod.fst) 0).2.length=p.1.2.length:=rfl;have h8:(bF ([p,q].map Prod.snd) 1).2.length=q.2.2.length:=rfl;have h9:(ah []).2.length=0:=rfl;have h10:Dy [p,q]=bigS p+(bigS q+0):=rfl;simp only [List.length_cons,List.length_nil] at *;omega
  ·match ks,hl with
   | [p,q,r],_=>
    have hq:=yf p;have hq2:=FM q;have hq3:=FM r;have e1:=jK (bF ([p,q,r].map Prod.fst) 0) ((ah [aV]).then ((bF ([p,q,r].map Prod.snd) 1).then ((ah [nI]).then (bF ([p,q,r].map Prod.snd) 2))));have e2:=jK (bF ([p,q,r].map Prod.snd) 1) ((ah [nI]).then (bF ([p,q,r].map Prod.snd) 2));rw [iD] at e1 e2;rw [show (if 2 < [p,q,r].length then (ah [nI]).then (bF ([p,q,r].map Prod.snd) 2) else ah [])=(ah [nI]).then (bF ([p,q,r].map Prod.snd) 2) from if_pos (by simp),iD,iD];have h7:(bF ([p,q,r].map Prod.fst) 0).2.length=p.1.2.length:=rfl;have h8:(bF ([p,q,r].map Prod.snd) 1).2.length=q.2.2.length:=rfl;have h9:(bF ([p,q,r].map Prod.snd) 2).2.length=r.2.2.length:=rfl;have h10:Dy [p,q,r]=bigS p+(bigS q+(bigS r+0)):=rfl;simp only [List.length_cons,List.length_nil] at *
    omega
 ·split
  ·refine Nat.le_trans (iV _ _) ?_
   rw [iD];have:=hone (bF (ks.map Prod.fst) 0) [t,Ai];simp only [List.length_cons,List.length_nil] at *;omega
  ·split
   ·refine yh fun hp=>?_
    obtain⟨-,-,-,h2,h3⟩:=lK hp;refine Nat.le_trans (iV _ _) ?_
    have hl:ks.length=2:=by omega
    match ks,hl with
    | [p,q],_=>
     have hq:=yf p;have hq2:=yf q;have e1:=jK (bF ([p,q].map Prod.fst) 0) ((ah [Ai]).then ((bF ([p,q].map Prod.fst) 1).then (ah [aW])));have e2:=hone (bF ([p,q].map Prod.fst) 1) [Ai];have h7:(bF ([p,q].map Prod.fst) 0).2.length=p.1.2.length:=rfl;have h8:(bF ([p,q].map Prod.fst) 1).2.length=q.1.2.length:=rfl;have h10:Dy [p,q]=bigS p+(bigS q+0):=rfl;simp only [List.length_cons,List.length_nil] at *;omega
   ·split
    ·refine Nat.le_trans (iV _ _) (Nat.le_trans (iV _ _) ?_)
     have:=hone (bF (ks.map Prod.fst) 0) [TZ];simp only [List.length_cons,List.length_nil] at *;omega
    ·split
     ·refine Nat.le_trans (iV _ _) (Nat.le_trans (iV _ _) ?_)
      rw [iD];have:=hone (bF (ks.map Prod.fst) 0) [jh (decide (m=1))];simp only [List.length_cons,List.length_nil] at *;omega
     ·refine Nat.le_trans (iV _ _) (Nat.le_trans (iV _ _) ?_)
      have:=hone (bF (ks.map Prod.fst) 0) [oN];simp only [List.length_cons,List.length_nil] at *;omega
theorem FN:∀ (l:List PO),(mG l).2.length≤sumP l
 | []=>by simp [mG,ah,sumP]
 | a::r=>by
  have h:=FN r;have h2:=jK a (mG r);simp only [mG,sumP,List.map_cons,List.sum_cons] at *;omega
theorem SS (k:Int) (t:ByteArray) (m:Int) (ks:List PO):(zS k t m ks).2.length≤sumP ks+2:=by
 unfold zS;refine Nat.le_trans (iV _ _) (Nat.le_trans (iV _ _) ?_)
 rw [iD];have h1:=FN ks;have h2:=jK (mG ks) (ah [qg]);have h3:(ah [qg]).2.length=1:=rfl;simp only [List.length_cons,List.length_nil] at *;omega
theorem wu:∀ (x:Nd),(rZ x).2.length+1≤12*dL x∧(qH x).2.length+1≤12*dL x:=by
 refine gz fun k t m l ih=>?_
 have hK:∀ (r:List Nd),(∀ x∈r,x∈l)→Dy (vK r)≤12*gm r∧sumP (Aj r)≤12*gm r:=by
  intro r;induction r with
  | nil=>intro _;simp [vK,Aj,Dy,sumP]
  | cons x r ih2=>
   intro hr;have h1:=ih x (hr x (List.mem_cons_self ..));have h2:=ih2 (fun y hy=>hr y (List.mem_cons_of_mem _ hy));have h3:=iL x 0;simp only [vK,Aj,Dy,sumP,bigS,List.map_cons,List.sum_cons,gm] at h2 ⊢;omega
 have h2:=hK l (fun x hx=>hx);have h3:=SQ k t m (Ux l) (vK l);have h4:=SS k t m (Aj l);rw [rZ,qH];simp only [dL];omega
theorem B_ (x:Nd):(Ae (fJ 0 x)).2.length≤12*dL x+1:=by
 have h1:=Vl (fJ 0 x);have h2:=iL x 0;omega
set_option maxRecDepth 100000 in
set_option maxHeartbeats 16000000 in
theorem uZ {W:World} {S:Nat} (hv:ErrVar W) (hmv:dG W) (htab:Lib.TabIs Tryz.prog W "internal/strconv.uint64pow10" .u64 Lib.pow10Tab) (k:Int) (t:ByteArray) (m:Int) (l:List Nd) (ih:∀ x∈l,BlC W S x):StC W S (.mk k t m l):=by
 intro v u row acc h hnd hm;rw [lJ] at hnd;obtain⟨a,cc,rfl,hc1,hc2,⟨hts,zK⟩,hrow⟩:=hnd;obtain⟨N,hN⟩:∃ N,l.length=N:=⟨_,rfl⟩;rw [hN] at hc1 ⊢;have Uc:N≤9223372036854775807:=by unfold maxLen at hc2;omega
 have HN:=Z_ hN;have HI:=Z_ hrow;have HIH:=Z_ ih;have HEX:=Z_ (qj (S:=S) hv hmv htab);have HV:=Z_ hv;have rC:=Z_ hmv;have HLEN:=Z_ (show acc.length+12*(1+gm l)≤1000000 from by simp only [dL] at hm;omega);have Je:=Z_ hts;have HB:=Z_ (PB.made h #[.int .i64 k,.string t,.int .i64 m,.slice a N cc]).nil;obtain⟨Nb,hNb⟩:∃ Nb,u.heap.size=Nb:=⟨_,rfl⟩;rw [hNb] at HB;obtain⟨ks,hks⟩:∃ ks,vK l=ks:=⟨_,rfl⟩;have hkn:ks.length=N:=by rw [←hks,FI,hN]
 obtain⟨kd,hkd⟩:∃ kd,Ux l=kd:=⟨_,rfl⟩;rw [rZ,hks,hkd];have vG:=Z_ hks;have JP:=Z_ hkd;obtain⟨T,hT⟩:∃ T,nV k t m kd ks=T:=⟨_,rfl⟩;rw [hT];unfold nV at hT;rw [hkn] at hT;clear hrow ih hv hmv htab hm hts zK h hN hks hkd hkn;by_cases k10:k=10∨k=11
 ·rcases k10 with rfl|rfl
  ·
   rw [if_pos (by decide)] at hT;have HT:=Z_ (show PO.then (true,[]) ((bu (cZ t m N 2 3 0)).then ((ah [T_]).then ((Ae (bF (ks.map Prod.fst) 0)).then ((bF (ks.map Prod.snd) 1).then (if 2<N then (ah [nI]).then (bF (ks.map Prod.snd) 2) else ah [])))))=T by rw [←hT,←dP];unfold Ae;simp only [then_assoc];rfl);clear hT;obtain⟨pb,hpb⟩:∃ pb,cZ t m N 2 3 0=pb:=⟨_,rfl⟩;have jX:=Z_ (fun w=>iZ 10 m t a N cc 2 3 0 w);rw [hpb] at jX HT;have ug:=Z_ hpb;clear hpb;go_enter Tryz.func232,Tryz.ntmps232
   go_upto_region 1 with (fail)
   try rw [hNb]
   generalize u.alloc (.cells #[.int .i64 10,.string t,.int .i64 m,.slice a N cc] 24)=u0 at *;clear hNb;have hbc:=HB.out.nb.cell;go_wp2_with fail
   try clear hbc
   refine(jX.out _).mono ?_
   rintro e w3 ⟨he,jq⟩;replace HB:=Z_ (HB.out.extend jq);clear jq;cases pb with
   | false=>
    obtain rfl:e=_:=he;simp only [Bool.false_eq_true,if_false];go_wp2_with fail
    exact⟨rfl,aG (by rw [←HT.out,eC]) HB.out.f⟩
   | true=>
    obtain rfl:e=_:=he;rw [dw] at HT;simp only [if_true];have aw9:N=2∨N=3:=by have h:=lK ug.out;omega
    have hbc:=HB.out.nb.cell;go_wp2_with fail
    try clear hbc
    refine(bQ HB.out.f.pw [T_] _ rfl 1 rfl (by decide) (by have h9:=HLEN.out;first|omega|(simp at h9 ⊢;omega))).mono ?_
    rintro e w3 ⟨rfl,row3,hF3⟩;replace HB:=Z_ (HB.out.call hF3).assoc;clear hF3;rw [aT] at HT;rcases aw9 with hn2|hn3
    ·have wG:=Z_ hn2
     clear hn2;rw [if_neg (by rw [wG.out];decide)] at HT;have yL:l.length=2:=by have h1:=HN.out;have h2:=wG.out;omega
     obtain⟨x,y,rfl⟩:∃ x y,l=[x,y]:=by match l,yL with|[x,y],_=>exact⟨x,y,rfl⟩
     have hkp:bF (ks.map Prod.fst) 0=fJ 0 x:=by rw [←vG.out];rfl
     obtain⟨p,hp⟩:∃ p,Ae (fJ 0 x)=p:=⟨_,rfl⟩;have hpl:=B_ x;rw [hp] at hpl;rw [hkp,hp] at HT;have Dz:=Z_ hp;clear hp hkp;have hkq:bF (ks.map Prod.snd) 1=qH y:=by rw [←vG.out];rfl
     obtain⟨q,hq⟩:∃ q,qH y=q:=⟨_,rfl⟩;have kN:=(wu y).2;rw [hq] at kN;rw [hkq,hq] at HT;have SU:=Z_ hq;clear hq hkq;obtain rfl:N=2:=wG.out;have hsz:gm [x,y]=dL x+dL y:=by simp only [gm];omega
     clear yL;have hi0:(0:Int)<(2:Int):=by decide
     have hi1:(1:Int)<(2:Int):=by decide
     obtain⟨b,o,k1,t1,m1,a1,n1,c1,ha,hu,q0,q1,q2,q3⟩:=gI HB.out.f.pw.ext HI.out 0 (by simp)
     first|subst ha|cases ha
     first|simp only [Nat.zero_mul,Nat.add_zero] at q0 q1 q2 q3|simp only [Nat.one_mul] at q0 q1 q2 q3|skip
     have iz:=Z_ (tq (HEX.out x) HB.out.f.pw hu (by have h9:=HLEN.out;first|omega|(simp at h9 ⊢;omega)));rw [Dz.out] at iz;have hbc:=HB.out.nb.cell;clear hu;go_wp2_with fail
     try clear hbc
     clear q0 q1 q2 q3;refine iz.out.mono ?_
     rintro e w3 ⟨⟨row3,hF3⟩,he⟩;replace HB:=Z_ (HB.out.call hF3).assoc;clear hF3 iz;obtain⟨pb,pw⟩:=p;cases pb with
     | false=>
      obtain rfl:e=_:=he;simp only [Bool.false_eq_true,if_false];go_wp2_with fail
      exact⟨rfl,aG (by rw [←HT.out,di]) HB.out.f⟩
     | true=>
      obtain rfl:e=_:=he;rw [then_ok] at HT;simp only [if_true]
      try simp only at hpl
      obtain⟨b,o,k1,t1,m1,a1,n1,c1,ha,hu,q0,q1,q2,q3⟩:=gI HB.out.f.pw.ext HI.out 1 (by simp);cases ha
      first|simp only [Nat.zero_mul,Nat.add_zero] at q0 q1 q2 q3|simp only [Nat.one_mul] at q0 q1 q2 q3|skip
      have iz:=Z_ (HIH.out y (by simp) _ _ _ _ HB.out.f.pw hu (by have h9:=HLEN.out;first|omega|(simp at h9 ⊢;omega)));rw [SU.out] at iz;have hbc:=HB.out.nb.cell;clear hu;go_wp2_with fail
      try clear hbc
      clear q0 q1 q2 q3;refine iz.out.mono ?_
      rintro e w3 ⟨⟨row3,hF3⟩,he⟩;replace HB:=Z_ (HB.out.call hF3).assoc;clear hF3 iz;obtain⟨qb,qw⟩:=q;cases qb with
      | false=>
       obtain rfl:e=_:=he;simp only [Bool.false_eq_true,if_false];go_wp2_with fail
       exact⟨rfl,aG (by rw [←HT.out,di]) HB.out.f⟩
      | true=>
       obtain rfl:e=_:=he;rw [then_ok] at HT;simp only [if_true]
       try simp only at kN
       have hbc:=HB.out.nb.cell;go_wp2_with fail
       go_end0
       exact eU (by rw [←HT.out,fH]) HB.out.f
    ·have wG:=Z_ hn3
     clear hn3;rw [if_pos (by rw [wG.out];decide),fE (bF (ks.map Prod.snd) 2)] at HT;have yL:l.length=3:=by have h1:=HN.out;have h2:=wG.out;omega
     obtain⟨x,y,z,rfl⟩:∃ x y z,l=[x,y,z]:=by match l,yL with|[x,y,z],_=>exact⟨x,y,z,rfl⟩
     have hkp:bF (ks.map Prod.fst) 0=fJ 0 x:=by rw [←vG.out];rfl
     obtain⟨p,hp⟩:∃ p,Ae (fJ 0 x)=p:=⟨_,rfl⟩;have hpl:=B_ x;rw [hp] at hpl;rw [hkp,hp] at HT;have Dz:=Z_ hp;clear hp hkp;have hkq:bF (ks.map Prod.snd) 1=qH y:=by rw [←vG.out];rfl
     obtain⟨q,hq⟩:∃ q,qH y=q:=⟨_,rfl⟩;have kN:=(wu y).2;rw [hq] at kN;rw [hkq,hq] at HT;have SU:=Z_ hq;clear hq hkq;have hkr:bF (ks.map Prod.snd) 2=qH z:=by rw [←vG.out];rfl
     obtain⟨r,hr⟩:∃ r,qH z=r:=⟨_,rfl⟩;have hrl:=(wu z).2;rw [hr] at hrl;rw [hkr,hr] at HT;have HPr:=Z_ hr;clear hr hkr;obtain rfl:N=3:=wG.out;have hsz:gm [x,y,z]=dL x+dL y+dL z:=by simp only [gm];omega
     clear yL;have hi0:(0:Int)<(3:Int):=by decide
     have hi1:(1:Int)<(3:Int):=by decide
     have hi2:(2:Int)<(3:Int):=by decide
     obtain⟨b,o,k1,t1,m1,a1,n1,c1,ha,hu,q0,q1,q2,q3⟩:=gI HB.out.f.pw.ext HI.out 0 (by simp)
     first|subst ha|cases ha
     first|simp only [Nat.zero_mul,Nat.add_zero] at q0 q1 q2 q3|simp only [Nat.one_mul] at q0 q1 q2 q3|skip
     have iz:=Z_ (tq (HEX.out x) HB.out.f.pw hu (by have h9:=HLEN.out;first|omega|(simp at h9 ⊢;omega)));rw [Dz.out] at iz;have hbc:=HB.out.nb.cell;clear hu;go_wp2_with fail
     try clear hbc
     clear q0 q1 q2 q3;refine iz.out.mono ?_
     rintro e w3 ⟨⟨row3,hF3⟩,he⟩;replace HB:=Z_ (HB.out.call hF3).assoc;clear hF3 iz;obtain⟨pb,pw⟩:=p;cases pb with
     | false=>
      obtain rfl:e=_:=he;simp only [Bool.false_eq_true,if_false];go_wp2_with fail
      exact⟨rfl,aG (by rw [←HT.out,di]) HB.out.f⟩
     | true=>
      obtain rfl:e=_:=he;rw [then_ok] at HT;simp only [if_true]
      try simp only at hpl
      obtain⟨b,o,k1,t1,m1,a1,n1,c1,ha,hu,q0,q1,q2,q3⟩:=gI HB.out.f.pw.ext HI.out 1 (by simp);cases ha
      first|simp only [Nat.zero_mul,Nat.add_zero] at q0 q1 q2 q3|simp only [Nat.one_mul] at q0 q1 q2 q3|skip
      have iz:=Z_ (HIH.out y (by simp) _ _ _ _ HB.out.f.pw hu (by have h9:=HLEN.out;first|omega|(simp at h9 ⊢;omega)));rw [SU.out] at iz;have hbc:=HB.out.nb.cell;clear hu;go_wp2_with fail
      try clear hbc
      clear q0 q1 q2 q3;refine iz.out.mono ?_
      rintro e w3 ⟨⟨row3,hF3⟩,he⟩;replace HB:=Z_ (HB.out.call hF3).assoc;clear hF3 iz;obtain⟨qb,qw⟩:=q;cases qb with
      | false=>
       obtain rfl:e=_:=he;simp only [Bool.false_eq_true,if_false];go_wp2_with fail
       exact⟨rfl,aG (by rw [←HT.out,di]) HB.out.f⟩
      | true=>
       obtain rfl:e=_:=he;rw [then_ok] at HT;simp only [if_true]
       try simp only at kN
       have hbc:=HB.out.nb.cell;go_wp2_with fail
       try clear hbc
       refine(bQ HB.out.f.pw [nI] _ rfl 1 rfl (by decide) (by have h9:=HLEN.out;first|omega|(simp at h9 ⊢;omega))).mono ?_
       rintro e w3 ⟨rfl,row3,hF3⟩;replace HB:=Z_ (HB.out.call hF3).assoc;clear hF3;rw [aT] at HT;obtain⟨b,o,k1,t1,m1,a1,n1,c1,ha,hu,q0,q1,q2,q3⟩:=gI HB.out.f.pw.ext HI.out 2 (by simp);cases ha
       first|simp only [Nat.zero_mul,Nat.add_zero] at q0 q1 q2 q3|simp only [Nat.one_mul] at q0 q1 q2 q3|skip
       have iz:=Z_ (HIH.out z (by simp) _ _ _ _ HB.out.f.pw hu (by have h9:=HLEN.out;first|omega|(simp at h9 ⊢;omega)));rw [HPr.out] at iz;have hbc:=HB.out.nb.cell;clear hu;go_wp2_with fail
       try clear hbc
       clear q0 q1 q2 q3;refine iz.out.mono ?_
       rintro e w3 ⟨⟨row3,hF3⟩,he⟩;replace HB:=Z_ (HB.out.call hF3).assoc;clear hF3 iz;obtain⟨rb,rw⟩:=r;cases rb with
       | false=>
        obtain rfl:e=_:=he;simp only [Bool.false_eq_true,if_false];go_wp2_with fail
        exact⟨rfl,aG (by rw [←HT.out,di]) HB.out.f⟩
       | true=>
        obtain rfl:e=_:=he;rw [then_ok] at HT;simp only [if_true]
        try simp only at hrl
        go_wp2_with fail
        go_end0
        exact eU (by rw [←HT.out,fH]) HB.out.f
  ·
   rw [if_pos (by decide)] at hT;have HT:=Z_ (show PO.then (true,[]) ((bu (cZ t m N 2 2 0)).then ((ah [tY]).then ((Ae (bF (ks.map Prod.fst) 0)).then ((bF (ks.map Prod.snd) 1).then (if 2<N then (ah [nI]).then (bF (ks.map Prod.snd) 2) else ah [])))))=T by rw [←hT,←dP];unfold Ae;simp only [then_assoc];rfl);clear hT;obtain⟨pb,hpb⟩:∃ pb,cZ t m N 2 2 0=pb:=⟨_,rfl⟩;have jX:=Z_ (fun w=>iZ 11 m t a N cc 2 2 0 w);rw [hpb] at jX HT;have ug:=Z_ hpb;clear hpb;go_enter Tryz.func232,Tryz.ntmps232
   go_upto_region 1 with (fail)
   try rw [hNb]
   generalize u.alloc (.cells #[.int .i64 11,.string t,.int .i64 m,.slice a N cc] 24)=u0 at *;clear hNb;have hbc:=HB.out.nb.cell;go_wp2_with fail
   try clear hbc
   refine(jX.out _).mono ?_
   rintro e w3 ⟨he,jq⟩;replace HB:=Z_ (HB.out.extend jq);clear jq;cases pb with
   | false=>
    obtain rfl:e=_:=he;simp only [Bool.false_eq_true,if_false];go_wp2_with fail
    exact⟨rfl,aG (by rw [←HT.out,eC]) HB.out.f⟩
   | true=>
    obtain rfl:e=_:=he;rw [dw] at HT;simp only [if_true];have wG:=Z_ (show N=2 from by have h:=lK ug.out;omega);have hbc:=HB.out.nb.cell;go_wp2_with fail
    try clear hbc
    refine(bQ HB.out.f.pw [tY] _ rfl 1 rfl (by decide) (by have h9:=HLEN.out;first|omega|(simp at h9 ⊢;omega))).mono ?_
    rintro e w3 ⟨rfl,row3,hF3⟩;replace HB:=Z_ (HB.out.call hF3).assoc;clear hF3;rw [aT] at HT;rw [if_neg (by rw [wG.out];decide)] at HT;have yL:l.length=2:=by have h1:=HN.out;have h2:=wG.out;omega
    obtain⟨x,y,rfl⟩:∃ x y,l=[x,y]:=by match l,yL with|[x,y],_=>exact⟨x,y,rfl⟩
    have hkp:bF (ks.map Prod.fst) 0=fJ 0 x:=by rw [←vG.out];rfl
    obtain⟨p,hp⟩:∃ p,Ae (fJ 0 x)=p:=⟨_,rfl⟩;have hpl:=B_ x;rw [hp] at hpl;rw [hkp,hp] at HT;have Dz:=Z_ hp;clear hp hkp;have hkq:bF (ks.map Prod.snd) 1=qH y:=by rw [←vG.out];rfl
    obtain⟨q,hq⟩:∃ q,qH y=q:=⟨_,rfl⟩;have kN:=(wu y).2;rw [hq] at kN;rw [hkq,hq] at HT;have SU:=Z_ hq;clear hq hkq;obtain rfl:N=2:=wG.out;have hsz:gm [x,y]=dL x+dL y:=by simp only [gm];omega
    clear yL;have hi0:(0:Int)<(2:Int):=by decide
    have hi1:(1:Int)<(2:Int):=by decide
    obtain⟨b,o,k1,t1,m1,a1,n1,c1,ha,hu,q0,q1,q2,q3⟩:=gI HB.out.f.pw.ext HI.out 0 (by simp)
    first|subst ha|cases ha
    first|simp only [Nat.zero_mul,Nat.add_zero] at q0 q1 q2 q3|simp only [Nat.one_mul] at q0 q1 q2 q3|skip
    have iz:=Z_ (tq (HEX.out x) HB.out.f.pw hu (by have h9:=HLEN.out;first|omega|(simp at h9 ⊢;omega)));rw [Dz.out] at iz;have hbc:=HB.out.nb.cell;clear hu;go_wp2_with fail
    try clear hbc
    clear q0 q1 q2 q3;refine iz.out.mono ?_
    rintro e w3 ⟨⟨row3,hF3⟩,he⟩;replace HB:=Z_ (HB.out.call hF3).assoc;clear hF3 iz;obtain⟨pb,pw⟩:=p;cases pb with
    | false=>
     obtain rfl:e=_:=he;simp only [Bool.false_eq_true,if_false];go_wp2_with fail
     exact⟨rfl,aG (by rw [←HT.out,di]) HB.out.f⟩
    | true=>
     obtain rfl:e=_:=he;rw [then_ok] at HT;simp only [if_true]
     try simp only at hpl
     obtain⟨b,o,k1,t1,m1,a1,n1,c1,ha,hu,q0,q1,q2,q3⟩:=gI HB.out.f.pw.ext HI.out 1 (by simp);cases ha
     first|simp only [Nat.zero_mul,Nat.add_zero] at q0 q1 q2 q3|simp only [Nat.one_mul] at q0 q1 q2 q3|skip
     have iz:=Z_ (HIH.out y (by simp) _ _ _ _ HB.out.f.pw hu (by have h9:=HLEN.out;first|omega|(simp at h9 ⊢;omega)));rw [SU.out] at iz;have hbc:=HB.out.nb.cell;clear hu;go_wp2_with fail
     try clear hbc
     clear q0 q1 q2 q3;refine iz.out.mono ?_
     rintro e w3 ⟨⟨row3,hF3⟩,he⟩;replace HB:=Z_ (HB.out.call hF3).assoc;clear hF3 iz;obtain⟨qb,qw⟩:=q;cases qb with
     | false=>
      obtain rfl:e=_:=he;simp only [Bool.false_eq_true,if_false];go_wp2_with fail
      exact⟨rfl,aG (by rw [←HT.out,di]) HB.out.f⟩
     | true=>
      obtain rfl:e=_:=he;rw [then_ok] at HT;simp only [if_true]
      try simp only at kN
      have hbc:=HB.out.nb.cell;go_wp2_with fail
      go_end0
      exact eU (by rw [←HT.out,fH]) HB.out.f
 rw [if_neg k10] at hT;by_cases k7:k=7
 ·
  subst k7;rw [if_pos rfl] at hT;clear k10;have HT:=Z_ (show PO.then (true,[]) ((bu (eH t m N 1 1 1)).then ((ah [jh (decide (m=1))]).then ((ah [t,Ai]).then ((bF (ks.map Prod.fst) 0).then ((ah [aW]).then (ah []))))))=T by rw [←hT,←fE (ah [aW]),←dP]);clear hT ;obtain⟨pb,hpb⟩:∃ pb,eH t m N 1 1 1=pb:=⟨_,rfl⟩;have jX:=Z_ (fun w (hE:Ext W w)=>oM 7 m t a N cc 1 1 1 w Je.out (HV.out.ext hE) (rC.out.ext hE));rw [hpb] at jX HT;have ug:=Z_ hpb;clear hpb;go_enter Tryz.func232,Tryz.ntmps232
  go_upto_region 1 with (fail)
  try rw [hNb]
  generalize u.alloc (.cells #[.int .i64 7,.string t,.int .i64 m,.slice a N cc] 24)=u0 at *;clear hNb;have hbc:=HB.out.nb.cell;go_wp2_with fail
  try clear hbc
  refine(jX.out _ HB.out.f.pw.ext).mono ?_
  rintro e w3 ⟨he,jq⟩;replace HB:=Z_ (HB.out.extend jq);clear jq;cases pb with
  | false=>
   obtain rfl:e=_:=he;simp only [Bool.false_eq_true,if_false];go_wp2_with fail
   exact⟨rfl,aG (by rw [←HT.out,eC]) HB.out.f⟩
  | true=>
   obtain rfl:e=_:=he;rw [dw] at HT;simp only [if_true];have wG:=Z_ (show N=1 from by have h:=Vm ug.out;omega);have hbc:=HB.out.nb.cell;go_wp2_with fail
   try clear hbc
   refine(cE HB.out.f.pw (decide (m=1)) (by have h9:=HLEN.out;first|omega|(simp at h9 ⊢;omega))).mono ?_
   rintro e w3 ⟨rfl,row3,hF3⟩;replace HB:=Z_ (HB.out.call hF3).assoc;clear hF3;rw [aT] at HT;go_wp2_with fail
   try clear hbc
   refine(bQ HB.out.f.pw [t,Ai] _ rfl 2 rfl (by decide) (by have h9:=HLEN.out;first|omega|(simp at h9 ⊢;omega))).mono ?_
   rintro e w3 ⟨rfl,row3,hF3⟩;replace HB:=Z_ (HB.out.call hF3).assoc;clear hF3;rw [aT] at HT;have yL:l.length=1:=by have h1:=HN.out;have h2:=wG.out;omega
   obtain⟨x,rfl⟩:∃ x,l=[x]:=by match l,yL with|[x],_=>exact⟨x,rfl⟩
   have hkp:bF (ks.map Prod.fst) 0=fJ 0 x:=by rw [←vG.out];rfl
   obtain⟨p,hp⟩:∃ p,fJ 0 x=p:=⟨_,rfl⟩;have hpl:=iL x 0;rw [hp] at hpl;rw [hkp,hp] at HT;have Dz:=Z_ hp;clear hp hkp;obtain rfl:N=1:=wG.out;have hsz:gm [x]=dL x:=by simp only [gm];omega
   clear yL;have hi0:(0:Int)<(1:Int):=by decide
   obtain⟨b,o,k1,t1,m1,a1,n1,c1,ha,hu,q0,q1,q2,q3⟩:=gI HB.out.f.pw.ext HI.out 0 (by simp)
   first|subst ha|cases ha
   first|simp only [Nat.zero_mul,Nat.add_zero] at q0 q1 q2 q3|simp only [Nat.one_mul] at q0 q1 q2 q3|skip
   have iz:=Z_ (HEX.out x _ _ _ _ 0 HB.out.f.pw hu (by have h9:=HLEN.out;first|omega|(simp at h9 ⊢;omega)) (by decide) (by decide));rw [Dz.out] at iz;have hbc:=HB.out.nb.cell;clear hu;go_wp2_with fail
   try clear hbc
   clear q0 q1 q2 q3;refine iz.out.mono ?_
   rintro e w3 ⟨⟨row3,hF3⟩,he⟩;replace HB:=Z_ (HB.out.call hF3).assoc;clear hF3 iz;obtain⟨pb,pw⟩:=p;cases pb with
   | false=>
    obtain rfl:e=_:=he;simp only [Bool.false_eq_true,if_false];go_wp2_with fail
    exact⟨rfl,aG (by rw [←HT.out,di]) HB.out.f⟩
   | true=>
    obtain rfl:e=_:=he;rw [then_ok] at HT;simp only [if_true]
    try simp only at hpl
    go_wp2_with fail
    try clear hbc
    refine(bQ HB.out.f.pw [aW] _ rfl 1 rfl (by decide) (by have h9:=HLEN.out;first|omega|(simp at h9 ⊢;omega))).mono ?_
    rintro e w3 ⟨rfl,row3,hF3⟩;replace HB:=Z_ (HB.out.call hF3).assoc;clear hF3;rw [aT] at HT;go_wp2_with fail
    go_end0
    exact eU (by rw [←HT.out,fH]) HB.out.f
 rw [if_neg k7] at hT;by_cases k8:k=8
 ·
  subst k8;rw [if_pos rfl] at hT;clear k10 k7;have HT:=Z_ (show PO.then (true,[]) ((bu (cZ t m N 2 2 0)).then ((bu (decide (kd=16) || decide (kd=17))).then ((bF (ks.map Prod.fst) 0).then ((ah [Ai]).then ((bF (ks.map Prod.fst) 1).then ((ah [aW]).then (ah [])))))))=T by rw [←hT,←fE (ah [aW]),←dP]);clear hT ;obtain⟨pb,hpb⟩:∃ pb,cZ t m N 2 2 0=pb:=⟨_,rfl⟩;have jX:=Z_ (fun w=>iZ 8 m t a N cc 2 2 0 w);rw [hpb] at jX HT;have ug:=Z_ hpb;clear hpb;go_enter Tryz.func232,Tryz.ntmps232
  go_upto_region 1 with (fail)
  try rw [hNb]
  generalize u.alloc (.cells #[.int .i64 8,.string t,.int .i64 m,.slice a N cc] 24)=u0 at *;clear hNb;have hbc:=HB.out.nb.cell;go_wp2_with fail
  try clear hbc
  refine(jX.out _).mono ?_
  rintro e w3 ⟨he,jq⟩;replace HB:=Z_ (HB.out.extend jq);clear jq;cases pb with
  | false=>
   obtain rfl:e=_:=he;simp only [Bool.false_eq_true,if_false];go_wp2_with fail
   exact⟨rfl,aG (by rw [←HT.out,eC]) HB.out.f⟩
  | true=>
   obtain rfl:e=_:=he;rw [dw] at HT;simp only [if_true];have wG:=Z_ (show N=2 from by have h:=lK ug.out;omega);have yL:l.length=2:=by have h1:=HN.out;have h2:=wG.out;omega
   obtain⟨x,y,rfl⟩:∃ x y,l=[x,y]:=by match l,yL with|[x,y],_=>exact⟨x,y,rfl⟩
   have hkp:bF (ks.map Prod.fst) 0=fJ 0 x:=by rw [←vG.out];rfl
   obtain⟨p,hp⟩:∃ p,fJ 0 x=p:=⟨_,rfl⟩;have hpl:=iL x 0;rw [hp] at hpl;rw [hkp,hp] at HT;have Dz:=Z_ hp;clear hp hkp;have hkq:bF (ks.map Prod.fst) 1=fJ 0 y:=by rw [←vG.out];rfl
   obtain⟨q,hq⟩:∃ q,fJ 0 y=q:=⟨_,rfl⟩;have kN:=iL y 0;rw [hq] at kN;rw [hkq,hq] at HT;have SU:=Z_ hq;clear hq hkq;obtain rfl:N=2:=wG.out;have hsz:gm [x,y]=dL x+dL y:=by simp only [gm];omega
   clear yL;have hi0:(0:Int)<(2:Int):=by decide
   have hi1:(1:Int)<(2:Int):=by decide
   obtain⟨b,o,k1,t1,m1,a1,n1,c1,ha,hu,q0,q1,q2,q3⟩:=gI HB.out.f.pw.ext HI.out 0 (by simp)
   first|subst ha|cases ha
   first|simp only [Nat.zero_mul,Nat.add_zero] at q0 q1 q2 q3|simp only [Nat.one_mul] at q0 q1 q2 q3|skip
   have HPQ:=Z_ (fun w=>v_ k1 m1 t1 a1 n1 c1 w);have hkk:kd=k1:=by rw [←JP.out];exact MC hu
   subst hkk;have hbc:=HB.out.nb.cell;go_wp2_with fail
   try clear hbc
   refine(HPQ.out _).mono ?_
   rintro e w3 ⟨he,jq⟩;replace HB:=Z_ (HB.out.extend jq);clear jq HPQ q0 q1 q2 q3 hu;obtain⟨pc,hpc⟩:∃ pc,xw kd=pc:=⟨_,rfl⟩;rw [hpc] at he;unfold xw at hpc;rw [hpc] at HT;clear hpc;cases pc with
   | false=>
    obtain rfl:e=_:=he;simp only [Bool.false_eq_true,if_false];go_wp2_with fail
    exact⟨rfl,aG (by rw [←HT.out,eC]) HB.out.f⟩
   | true=>
    obtain rfl:e=_:=he;rw [dw] at HT;simp only [if_true];obtain⟨b,o,k1,t1,m1,a1,n1,c1,ha,hu,q0,q1,q2,q3⟩:=gI HB.out.f.pw.ext HI.out 0 (by simp)
    first|subst ha|cases ha
    first|simp only [Nat.zero_mul,Nat.add_zero] at q0 q1 q2 q3|simp only [Nat.one_mul] at q0 q1 q2 q3|skip
    have iz:=Z_ (HEX.out x _ _ _ _ 0 HB.out.f.pw hu (by have h9:=HLEN.out;first|omega|(simp at h9 ⊢;omega)) (by decide) (by decide));rw [Dz.out] at iz;have hbc:=HB.out.nb.cell;clear hu;go_wp2_with fail
    try clear hbc
    clear q0 q1 q2 q3;refine iz.out.mono ?_
    rintro e w3 ⟨⟨row3,hF3⟩,he⟩;replace HB:=Z_ (HB.out.call hF3).assoc;clear hF3 iz;obtain⟨pb,pw⟩:=p;cases pb with
    | false=>
     obtain rfl:e=_:=he;simp only [Bool.false_eq_true,if_false];go_wp2_with fail
     exact⟨rfl,aG (by rw [←HT.out,di]) HB.out.f⟩
    | true=>
     obtain rfl:e=_:=he;rw [then_ok] at HT;simp only [if_true]
     try simp only at hpl
     go_wp2_with fail
     try clear hbc
     refine(bQ HB.out.f.pw [Ai] _ rfl 1 rfl (by decide) (by have h9:=HLEN.out;first|omega|(simp at h9 ⊢;omega))).mono ?_
     rintro e w3 ⟨rfl,row3,hF3⟩;replace HB:=Z_ (HB.out.call hF3).assoc;clear hF3;rw [aT] at HT;obtain⟨b,o,k1,t1,m1,a1,n1,c1,ha,hu,q0,q1,q2,q3⟩:=gI HB.out.f.pw.ext HI.out 1 (by simp);cases ha
     first|simp only [Nat.zero_mul,Nat.add_zero] at q0 q1 q2 q3|simp only [Nat.one_mul] at q0 q1 q2 q3|skip
     have iz:=Z_ (HEX.out y _ _ _ _ 0 HB.out.f.pw hu (by have h9:=HLEN.out;first|omega|(simp at h9 ⊢;omega)) (by decide) (by decide));rw [SU.out] at iz;have hbc:=HB.out.nb.cell;clear hu;go_wp2_with fail
     try clear hbc
     clear q0 q1 q2 q3;refine iz.out.mono ?_
     rintro e w3 ⟨⟨row3,hF3⟩,he⟩;replace HB:=Z_ (HB.out.call hF3).assoc;clear hF3 iz;obtain⟨qb,qw⟩:=q;cases qb with
     | false=>
      obtain rfl:e=_:=he;simp only [Bool.false_eq_true,if_false];go_wp2_with fail
      exact⟨rfl,aG (by rw [←HT.out,di]) HB.out.f⟩
     | true=>
      obtain rfl:e=_:=he;rw [then_ok] at HT;simp only [if_true]
      try simp only at kN
      go_wp2_with fail
      try clear hbc
      refine(bQ HB.out.f.pw [aW] _ rfl 1 rfl (by decide) (by have h9:=HLEN.out;first|omega|(simp at h9 ⊢;omega))).mono ?_
      rintro e w3 ⟨rfl,row3,hF3⟩;replace HB:=Z_ (HB.out.call hF3).assoc;clear hF3;rw [aT] at HT;go_wp2_with fail
      go_end0
      exact eU (by rw [←HT.out,fH]) HB.out.f
 rw [if_neg k8] at hT;by_cases k9:k=9
 ·
  subst k9;rw [if_pos rfl] at hT;clear k10 k7 k8;have HT:=Z_ (show PO.then (true,[]) ((bu (cZ t m N 1 1 0)).then ((bu (decide (kd=18))).then ((ah [TZ]).then ((bF (ks.map Prod.fst) 0).then ((ah [aW]).then (ah []))))))=T by rw [←hT,←fE (ah [aW]),←dP]);clear hT ;obtain⟨pb,hpb⟩:∃ pb,cZ t m N 1 1 0=pb:=⟨_,rfl⟩;have jX:=Z_ (fun w=>iZ 9 m t a N cc 1 1 0 w);rw [hpb] at jX HT;have ug:=Z_ hpb;clear hpb;go_enter Tryz.func232,Tryz.ntmps232
  go_upto_region 1 with (fail)
  try rw [hNb]
  generalize u.alloc (.cells #[.int .i64 9,.string t,.int .i64 m,.slice a N cc] 24)=u0 at *;clear hNb;have hbc:=HB.out.nb.cell;go_wp2_with fail
  try clear hbc
  refine(jX.out _).mono ?_
  rintro e w3 ⟨he,jq⟩;replace HB:=Z_ (HB.out.extend jq);clear jq;cases pb with
  | false=>
   obtain rfl:e=_:=he;simp only [Bool.false_eq_true,if_false];go_wp2_with fail
   exact⟨rfl,aG (by rw [←HT.out,eC]) HB.out.f⟩
  | true=>
   obtain rfl:e=_:=he;rw [dw] at HT;simp only [if_true];have wG:=Z_ (show N=1 from by have h:=lK ug.out;omega);have yL:l.length=1:=by have h1:=HN.out;have h2:=wG.out;omega
   obtain⟨x,rfl⟩:∃ x,l=[x]:=by match l,yL with|[x],_=>exact⟨x,rfl⟩
   have hkp:bF (ks.map Prod.fst) 0=fJ 0 x:=by rw [←vG.out];rfl
   obtain⟨p,hp⟩:∃ p,fJ 0 x=p:=⟨_,rfl⟩;have hpl:=iL x 0;rw [hp] at hpl;rw [hkp,hp] at HT;have Dz:=Z_ hp;clear hp hkp;obtain rfl:N=1:=wG.out;have hsz:gm [x]=dL x:=by simp only [gm];omega
   clear yL;have hi0:(0:Int)<(1:Int):=by decide
   obtain⟨b,o,k1,t1,m1,a1,n1,c1,ha,hu,q0,q1,q2,q3⟩:=gI HB.out.f.pw.ext HI.out 0 (by simp)
   first|subst ha|cases ha
   first|simp only [Nat.zero_mul,Nat.add_zero] at q0 q1 q2 q3|simp only [Nat.one_mul] at q0 q1 q2 q3|skip
   have hkk:kd=k1:=by rw [←JP.out];exact MC hu
   subst hkk;have hbc:=HB.out.nb.cell;go_wp2_with fail
   try clear hbc
   refine(gq (decide (kd=18)) _).mono ?_
   rintro e w3 ⟨rfl,rfl⟩;cases hpc:decide (kd=18) with
   | false=>
    rw [hpc] at HT;simp only [Bool.false_eq_true,if_false];go_wp2_with fail
    exact⟨rfl,aG (by rw [←HT.out,eC]) HB.out.f⟩
   | true=>
    rw [hpc,dw] at HT;simp only [if_true];clear hpc q0 q1 q2 q3 hu;have hbc:=HB.out.nb.cell;go_wp2_with fail
    try clear hbc
    refine(bQ HB.out.f.pw [TZ] _ rfl 1 rfl (by decide) (by have h9:=HLEN.out;first|omega|(simp at h9 ⊢;omega))).mono ?_
    rintro e w3 ⟨rfl,row3,hF3⟩;replace HB:=Z_ (HB.out.call hF3).assoc;clear hF3;rw [aT] at HT;obtain⟨b,o,k1,t1,m1,a1,n1,c1,ha,hu,q0,q1,q2,q3⟩:=gI HB.out.f.pw.ext HI.out 0 (by simp)
    first|subst ha|cases ha
    first|simp only [Nat.zero_mul,Nat.add_zero] at q0 q1 q2 q3|simp only [Nat.one_mul] at q0 q1 q2 q3|skip
    have iz:=Z_ (HEX.out x _ _ _ _ 0 HB.out.f.pw hu (by have h9:=HLEN.out;first|omega|(simp at h9 ⊢;omega)) (by decide) (by decide));rw [Dz.out] at iz;have hbc:=HB.out.nb.cell;clear hu;go_wp2_with fail
    try clear hbc
    clear q0 q1 q2 q3;refine iz.out.mono ?_
    rintro e w3 ⟨⟨row3,hF3⟩,he⟩;replace HB:=Z_ (HB.out.call hF3).assoc;clear hF3 iz;obtain⟨pb,pw⟩:=p;cases pb with
    | false=>
     obtain rfl:e=_:=he;simp only [Bool.false_eq_true,if_false];go_wp2_with fail
     exact⟨rfl,aG (by rw [←HT.out,di]) HB.out.f⟩
    | true=>
     obtain rfl:e=_:=he;rw [then_ok] at HT;simp only [if_true]
     try simp only at hpl
     go_wp2_with fail
     try clear hbc
     refine(bQ HB.out.f.pw [aW] _ rfl 1 rfl (by decide) (by have h9:=HLEN.out;first|omega|(simp at h9 ⊢;omega))).mono ?_
     rintro e w3 ⟨rfl,row3,hF3⟩;replace HB:=Z_ (HB.out.call hF3).assoc;clear hF3;rw [aT] at HT;go_wp2_with fail
     go_end0
     exact eU (by rw [←HT.out,fH]) HB.out.f
 rw [if_neg k9] at hT;by_cases k12:k=12∨k=13
 ·rcases k12 with rfl|rfl
  ·
   rw [if_pos (by decide)] at hT;clear k10 k7 k8 k9;have HT:=Z_ (show PO.then (true,[]) ((bu (cZ t m N 1 1 1)).then ((bu true).then ((ah [EH]).then ((ah [jh (decide (m=1))]).then ((bF (ks.map Prod.fst) 0).then ((ah [aW]).then (ah [])))))))=T by rw [←hT,←fE (ah [aW]),←dP];rfl);clear hT;obtain⟨pb,hpb⟩:∃ pb,cZ t m N 1 1 1=pb:=⟨_,rfl⟩;have jX:=Z_ (fun w=>iZ 12 m t a N cc 1 1 1 w);rw [hpb] at jX HT;have ug:=Z_ hpb;clear hpb;go_enter Tryz.func232,Tryz.ntmps232
   go_upto_region 1 with (fail)
   try rw [hNb]
   generalize u.alloc (.cells #[.int .i64 12,.string t,.int .i64 m,.slice a N cc] 24)=u0 at *;clear hNb;have hbc:=HB.out.nb.cell;go_wp2_with fail
   try clear hbc
   refine(jX.out _).mono ?_
   rintro e w3 ⟨he,jq⟩;replace HB:=Z_ (HB.out.extend jq);clear jq;cases pb with
   | false=>
    obtain rfl:e=_:=he;simp only [Bool.false_eq_true,if_false];go_wp2_with fail
    exact⟨rfl,aG (by rw [←HT.out,eC]) HB.out.f⟩
   | true=>
    obtain rfl:e=_:=he;rw [dw] at HT;simp only [if_true];have wG:=Z_ (show N=1 from by have h:=lK ug.out;omega);rw [dw] at HT;have yL:l.length=1:=by have h1:=HN.out;have h2:=wG.out;omega
    obtain⟨x,rfl⟩:∃ x,l=[x]:=by match l,yL with|[x],_=>exact⟨x,rfl⟩
    have hkp:bF (ks.map Prod.fst) 0=fJ 0 x:=by rw [←vG.out];rfl
    obtain⟨p,hp⟩:∃ p,fJ 0 x=p:=⟨_,rfl⟩;have hpl:=iL x 0;rw [hp] at hpl;rw [hkp,hp] at HT;have Dz:=Z_ hp;clear hp hkp;obtain rfl:N=1:=wG.out;have hsz:gm [x]=dL x:=by simp only [gm];omega
    clear yL;have hi0:(0:Int)<(1:Int):=by decide
    have hbc:=HB.out.nb.cell;go_wp2_with fail
    try clear hbc
    refine(bQ HB.out.f.pw [EH] _ rfl 1 rfl (by decide) (by have h9:=HLEN.out;first|omega|(simp at h9 ⊢;omega))).mono ?_
    rintro e w3 ⟨rfl,row3,hF3⟩;replace HB:=Z_ (HB.out.call hF3).assoc;clear hF3;rw [aT] at HT;have hbc:=HB.out.nb.cell;go_wp2_with fail
    try clear hbc
    refine(cE HB.out.f.pw (decide (m=1)) (by have h9:=HLEN.out;first|omega|(simp at h9 ⊢;omega))).mono ?_
    rintro e w3 ⟨rfl,row3,hF3⟩;replace HB:=Z_ (HB.out.call hF3).assoc;clear hF3;rw [aT] at HT;obtain⟨b,o,k1,t1,m1,a1,n1,c1,ha,hu,q0,q1,q2,q3⟩:=gI HB.out.f.pw.ext HI.out 0 (by simp)
    first|subst ha|cases ha
    first|simp only [Nat.zero_mul,Nat.add_zero] at q0 q1 q2 q3|simp only [Nat.one_mul] at q0 q1 q2 q3|skip
    have iz:=Z_ (HEX.out x _ _ _ _ 0 HB.out.f.pw hu (by have h9:=HLEN.out;first|omega|(simp at h9 ⊢;omega)) (by decide) (by decide));rw [Dz.out] at iz;have hbc:=HB.out.nb.cell;clear hu;go_wp2_with fail
    try clear hbc
    clear q0 q1 q2 q3;refine iz.out.mono ?_
    rintro e w3 ⟨⟨row3,hF3⟩,he⟩;replace HB:=Z_ (HB.out.call hF3).assoc;clear hF3 iz;obtain⟨pb,pw⟩:=p;cases pb with
    | false=>
     obtain rfl:e=_:=he;simp only [Bool.false_eq_true,if_false];go_wp2_with fail
     exact⟨rfl,aG (by rw [←HT.out,di]) HB.out.f⟩
    | true=>
     obtain rfl:e=_:=he;rw [then_ok] at HT;simp only [if_true]
     try simp only at hpl
     go_wp2_with fail
     try clear hbc
     refine(bQ HB.out.f.pw [aW] _ rfl 1 rfl (by decide) (by have h9:=HLEN.out;first|omega|(simp at h9 ⊢;omega))).mono ?_
     rintro e w3 ⟨rfl,row3,hF3⟩;replace HB:=Z_ (HB.out.call hF3).assoc;clear hF3;rw [aT] at HT;go_wp2_with fail
     go_end0
     exact eU (by rw [←HT.out,fH]) HB.out.f
  ·
   rw [if_pos (by decide)] at hT;clear k10 k7 k8 k9;have HT:=Z_ (show PO.then (true,[]) ((bu (cZ t m N 1 1 1)).then ((bu (decide (kd=16) || decide (kd=17))).then ((ah [Uy]).then ((ah [jh (decide (m=1))]).then ((bF (ks.map Prod.fst) 0).then ((ah [aW]).then (ah [])))))))=T by rw [←hT,←fE (ah [aW]),←dP];rfl);clear hT;obtain⟨pb,hpb⟩:∃ pb,cZ t m N 1 1 1=pb:=⟨_,rfl⟩;have jX:=Z_ (fun w=>iZ 13 m t a N cc 1 1 1 w);rw [hpb] at jX HT;have ug:=Z_ hpb;clear hpb;go_enter Tryz.func232,Tryz.ntmps232
   go_upto_region 1 with (fail)
   try rw [hNb]
   generalize u.alloc (.cells #[.int .i64 13,.string t,.int .i64 m,.slice a N cc] 24)=u0 at *;clear hNb;have hbc:=HB.out.nb.cell;go_wp2_with fail
   try clear hbc
   refine(jX.out _).mono ?_
   rintro e w3 ⟨he,jq⟩;replace HB:=Z_ (HB.out.extend jq);clear jq;cases pb with
   | false=>
    obtain rfl:e=_:=he;simp only [Bool.false_eq_true,if_false];go_wp2_with fail
    exact⟨rfl,aG (by rw [←HT.out,eC]) HB.out.f⟩
   | true=>
    obtain rfl:e=_:=he;rw [dw] at HT;simp only [if_true];have wG:=Z_ (show N=1 from by have h:=lK ug.out;omega);have yL:l.length=1:=by have h1:=HN.out;have h2:=wG.out;omega
    obtain⟨x,rfl⟩:∃ x,l=[x]:=by match l,yL with|[x],_=>exact⟨x,rfl⟩
    have hkp:bF (ks.map Prod.fst) 0=fJ 0 x:=by rw [←vG.out];rfl
    obtain⟨p,hp⟩:∃ p,fJ 0 x=p:=⟨_,rfl⟩;have hpl:=iL x 0;rw [hp] at hpl;rw [hkp,hp] at HT;have Dz:=Z_ hp;clear hp hkp;obtain rfl:N=1:=wG.out;have hsz:gm [x]=dL x:=by simp only [gm];omega
    clear yL;have hi0:(0:Int)<(1:Int):=by decide
    obtain⟨b,o,k1,t1,m1,a1,n1,c1,ha,hu,q0,q1,q2,q3⟩:=gI HB.out.f.pw.ext HI.out 0 (by simp)
    first|subst ha|cases ha
    first|simp only [Nat.zero_mul,Nat.add_zero] at q0 q1 q2 q3|simp only [Nat.one_mul] at q0 q1 q2 q3|skip
    have HPQ:=Z_ (fun w=>v_ k1 m1 t1 a1 n1 c1 w);have hkk:kd=k1:=by rw [←JP.out];exact MC hu
    subst hkk;have hbc:=HB.out.nb.cell;go_wp2_with fail
    try clear hbc
    refine(HPQ.out _).mono ?_
    rintro e w3 ⟨he,jq⟩;replace HB:=Z_ (HB.out.extend jq);clear jq HPQ q0 q1 q2 q3 hu;obtain⟨pc,hpc⟩:∃ pc,xw kd=pc:=⟨_,rfl⟩;rw [hpc] at he;unfold xw at hpc;rw [hpc] at HT;clear hpc;cases pc with
    | false=>
     obtain rfl:e=_:=he;simp only [Bool.false_eq_true,if_false];go_wp2_with fail
     exact⟨rfl,aG (by rw [←HT.out,eC]) HB.out.f⟩
    | true=>
     obtain rfl:e=_:=he;rw [dw] at HT;simp only [if_true];have hbc:=HB.out.nb.cell;go_wp2_with fail
     try clear hbc
     refine(bQ HB.out.f.pw [Uy] _ rfl 1 rfl (by decide) (by have h9:=HLEN.out;first|omega|(simp at h9 ⊢;omega))).mono ?_
     rintro e w3 ⟨rfl,row3,hF3⟩;replace HB:=Z_ (HB.out.call hF3).assoc;clear hF3;rw [aT] at HT;have hbc:=HB.out.nb.cell;go_wp2_with fail
     try clear hbc
     refine(cE HB.out.f.pw (decide (m=1)) (by have h9:=HLEN.out;first|omega|(simp at h9 ⊢;omega))).mono ?_
     rintro e w3 ⟨rfl,row3,hF3⟩;replace HB:=Z_ (HB.out.call hF3).assoc;clear hF3;rw [aT] at HT;obtain⟨b,o,k1,t1,m1,a1,n1,c1,ha,hu,q0,q1,q2,q3⟩:=gI HB.out.f.pw.ext HI.out 0 (by simp)
     first|subst ha|cases ha
     first|simp only [Nat.zero_mul,Nat.add_zero] at q0 q1 q2 q3|simp only [Nat.one_mul] at q0 q1 q2 q3|skip
     have iz:=Z_ (HEX.out x _ _ _ _ 0 HB.out.f.pw hu (by have h9:=HLEN.out;first|omega|(simp at h9 ⊢;omega)) (by decide) (by decide));rw [Dz.out] at iz;have hbc:=HB.out.nb.cell;clear hu;go_wp2_with fail
     try clear hbc
     clear q0 q1 q2 q3;refine iz.out.mono ?_
     rintro e w3 ⟨⟨row3,hF3⟩,he⟩;replace HB:=Z_ (HB.out.call hF3).assoc;clear hF3 iz;obtain⟨pb,pw⟩:=p;cases pb with
     | false=>
      obtain rfl:e=_:=he;simp only [Bool.false_eq_true,if_false];go_wp2_with fail
      exact⟨rfl,aG (by rw [←HT.out,di]) HB.out.f⟩
     | true=>
      obtain rfl:e=_:=he;rw [then_ok] at HT;simp only [if_true]
      try simp only at hpl
      go_wp2_with fail
      try clear hbc
      refine(bQ HB.out.f.pw [aW] _ rfl 1 rfl (by decide) (by have h9:=HLEN.out;first|omega|(simp at h9 ⊢;omega))).mono ?_
      rintro e w3 ⟨rfl,row3,hF3⟩;replace HB:=Z_ (HB.out.call hF3).assoc;clear hF3;rw [aT] at HT;go_wp2_with fail
      go_end0
      exact eU (by rw [←HT.out,fH]) HB.out.f
 rw [if_neg k12] at hT;have HT:=Z_ (show PO.then (true,[]) ((bu (decide (k=14))).then ((bu (cZ t m N 1 1 0)).then ((ah [oN]).then ((bF (ks.map Prod.fst) 0).then ((ah [aW]).then (ah []))))))=T by rw [←hT,←fE (ah [aW]),←dP]);clear hT ;have b10:(k == 10)=false:=beq_eq_false_iff_ne.2 (fun e=>k10 (.inl e));have b11:(k == 11)=false:=beq_eq_false_iff_ne.2 (fun e=>k10 (.inr e));have b7:(k == 7)=false:=beq_eq_false_iff_ne.2 k7;have b8:(k == 8)=false:=beq_eq_false_iff_ne.2 k8;have b9:(k == 9)=false:=beq_eq_false_iff_ne.2 k9;have b12:(k == 12)=false:=beq_eq_false_iff_ne.2 (fun e=>k12 (.inl e));have b13:(k == 13)=false:=beq_eq_false_iff_ne.2 (fun e=>k12 (.inr e));clear k10 k7 k8 k9 k12;obtain⟨pb,hpb⟩:∃ pb,cZ t m N 1 1 0=pb:=⟨_,rfl⟩;have jX:=Z_ (fun w=>iZ k m t a N cc 1 1 0 w)
 rw [hpb] at jX HT;have ug:=Z_ hpb;clear hpb;go_enter Tryz.func232,Tryz.ntmps232
 go_upto_region 1 with (fail)
 try rw [hNb]
 generalize u.alloc (.cells #[.int .i64 k,.string t,.int .i64 m,.slice a N cc] 24)=u0 at *;clear hNb;have hbc:=HB.out.nb.cell;go_wp2_with fail
 try clear hbc
 refine(gq (decide (k=14)) _).mono ?_
 rintro e w3 ⟨rfl,rfl⟩;cases hpc:decide (k=14) with
 | false=>
  rw [hpc] at HT;simp only [Bool.false_eq_true,if_false];go_wp2_with fail
  exact⟨rfl,aG (by rw [←HT.out,eC]) HB.out.f⟩
 | true=>
  rw [hpc,dw] at HT;simp only [if_true];clear hpc;have hbc:=HB.out.nb.cell;go_wp2_with fail
  try clear hbc
  refine(jX.out _).mono ?_
  rintro e w3 ⟨he,jq⟩;replace HB:=Z_ (HB.out.extend jq);clear jq;cases pb with
  | false=>
   obtain rfl:e=_:=he;simp only [Bool.false_eq_true,if_false];go_wp2_with fail
   exact⟨rfl,aG (by rw [←HT.out,eC]) HB.out.f⟩
  | true=>
   obtain rfl:e=_:=he;rw [dw] at HT;simp only [if_true];have wG:=Z_ (show N=1 from by have h:=lK ug.out;omega);have hbc:=HB.out.nb.cell;go_wp2_with fail
   try clear hbc
   refine(bQ HB.out.f.pw [oN] _ rfl 1 rfl (by decide) (by have h9:=HLEN.out;first|omega|(simp at h9 ⊢;omega))).mono ?_
   rintro e w3 ⟨rfl,row3,hF3⟩;replace HB:=Z_ (HB.out.call hF3).assoc;clear hF3;rw [aT] at HT;have yL:l.length=1:=by have h1:=HN.out;have h2:=wG.out;omega
   obtain⟨x,rfl⟩:∃ x,l=[x]:=by match l,yL with|[x],_=>exact⟨x,rfl⟩
   have hkp:bF (ks.map Prod.fst) 0=fJ 0 x:=by rw [←vG.out];rfl
   obtain⟨p,hp⟩:∃ p,fJ 0 x=p:=⟨_,rfl⟩;have hpl:=iL x 0;rw [hp] at hpl;rw [hkp,hp] at HT;have Dz:=Z_ hp;clear hp hkp;obtain rfl:N=1:=wG.out;have hsz:gm [x]=dL x:=by simp only [gm];omega
   clear yL;have hi0:(0:Int)<(1:Int):=by decide
   obtain⟨b,o,k1,t1,m1,a1,n1,c1,ha,hu,q0,q1,q2,q3⟩:=gI HB.out.f.pw.ext HI.out 0 (by simp)
   first|subst ha|cases ha
   first|simp only [Nat.zero_mul,Nat.add_zero] at q0 q1 q2 q3|simp only [Nat.one_mul] at q0 q1 q2 q3|skip
   have iz:=Z_ (HEX.out x _ _ _ _ 0 HB.out.f.pw hu (by have h9:=HLEN.out;first|omega|(simp at h9 ⊢;omega)) (by decide) (by decide));rw [Dz.out] at iz;have hbc:=HB.out.nb.cell;clear hu;go_wp2_with fail
   try clear hbc
   clear q0 q1 q2 q3;refine iz.out.mono ?_
   rintro e w3 ⟨⟨row3,hF3⟩,he⟩;replace HB:=Z_ (HB.out.call hF3).assoc;clear hF3 iz;obtain⟨pb,pw⟩:=p;cases pb with
   | false=>
    obtain rfl:e=_:=he;simp only [Bool.false_eq_true,if_false];go_wp2_with fail
    exact⟨rfl,aG (by rw [←HT.out,di]) HB.out.f⟩
   | true=>
    obtain rfl:e=_:=he;rw [then_ok] at HT;simp only [if_true]
    try simp only at hpl
    go_wp2_with fail
    try clear hbc
    refine(bQ HB.out.f.pw [aW] _ rfl 1 rfl (by decide) (by have h9:=HLEN.out;first|omega|(simp at h9 ⊢;omega))).mono ?_
    rintro e w3 ⟨rfl,row3,hF3⟩;replace HB:=Z_ (HB.out.call hF3).assoc;clear hF3;rw [aT] at HT;go_wp2_with fail
    go_end0
    exact eU (by rw [←HT.out,fH]) HB.out.f
set_option maxRecDepth 100000 in
set_option maxHeartbeats 16000000 in
theorem rX {W:World} {S:Nat} (k:Int) (t:ByteArray) (m:Int) (l:List Nd) (ih:∀ x∈l,StC W S x):BlC W S (.mk k t m l):=by
 intro v u row acc h hnd hm;rw [lJ] at hnd;obtain⟨a,cc,rfl,hc1,hc2,⟨hts,zK⟩,hrow⟩:=hnd;obtain⟨N,hN⟩:∃ N,l.length=N:=⟨_,rfl⟩;rw [hN] at hc1 ⊢;have Uc:N≤9223372036854775807:=by unfold maxLen at hc2;omega
 have HN:=Z_ hN;have HI:=Z_ hrow;have HIH:=Z_ ih;have HLEN:=Z_ (show acc.length+12*(1+gm l)≤1000000 from by simp only [dL] at hm;omega);have HB:=Z_ (PB.made h #[.int .i64 k,.string t,.int .i64 m,.slice a N cc]).nil;obtain⟨Nb,hNb⟩:∃ Nb,u.heap.size=Nb:=⟨_,rfl⟩;rw [hNb] at HB;obtain⟨ks,hks⟩:∃ ks,Aj l=ks:=⟨_,rfl⟩;have hkn:ks.length=N:=by rw [←hks,FK,hN]
 rw [qH,hks];have vG:=Z_ hks;obtain⟨T,hT⟩:∃ T,zS k t m ks=T:=⟨_,rfl⟩;rw [hT];unfold zS at hT;rw [hkn] at hT;clear hrow ih hm hts zK h hN hks hkn;have HT:=Z_ (show PO.then (true,[]) ((bu (decide (k=6))).then ((bu (cZ t m N 0 (-1) 0)).then ((ah [r_]).then ((mG ks).then ((ah [qg]).then (ah []))))))=T by rw [←hT,←fE (ah [qg]),←dP]);clear hT;obtain⟨pb,hpb⟩:∃ pb,cZ t m N 0 (-1) 0=pb:=⟨_,rfl⟩;have jX:=Z_ (fun w=>iZ k m t a N cc 0 (-1) 0 w);rw [hpb] at jX HT;have ug:=Z_ hpb;clear hpb;go_enter Tryz.func183,Tryz.ntmps183
 go_upto_region 1 with (fail)
 try rw [hNb]
 generalize u.alloc (.cells #[.int .i64 k,.string t,.int .i64 m,.slice a N cc] 24)=u0 at *;clear hNb;have hbc:=HB.out.nb.cell;go_wp2_with fail
 try clear hbc
 refine(gq (decide (k=6)) _).mono ?_
 rintro e w3 ⟨rfl,rfl⟩;cases hpc:decide (k=6) with
 | false=>
  rw [hpc] at HT;simp only [Bool.false_eq_true,if_false];go_wp2_with fail
  exact⟨rfl,aG (by rw [←HT.out,eC]) HB.out.f⟩
 | true=>
  rw [hpc,dw] at HT;simp only [if_true];clear hpc;have hbc:=HB.out.nb.cell;go_wp2_with fail
  try clear hbc
  refine(jX.out _).mono ?_
  rintro e w3 ⟨he,jq⟩;replace HB:=Z_ (HB.out.extend jq);clear jq;cases pb with
  | false=>
   obtain rfl:e=_:=he;simp only [Bool.false_eq_true,if_false];go_wp2_with fail
   exact⟨rfl,aG (by rw [←HT.out,eC]) HB.out.f⟩
  | true=>
   obtain rfl:e=_:=he;rw [dw] at HT;simp only [if_true];have hbc:=HB.out.nb.cell;go_wp2_with fail
   try clear hbc
   refine(bQ HB.out.f.pw [r_] _ rfl 1 rfl (by decide) (by have h9:=HLEN.out;first|omega|(simp at h9 ⊢;omega))).mono ?_
   rintro e w3 ⟨rfl,row3,hF3⟩;replace HB:=Z_ (HB.out.call hF3).assoc;clear hF3;rw [aT] at HT;have hbc:=HB.out.nb.cell;go_upto_region 4 with (fail)
   go_wp2_with fail
   clear hbc;have rF:=Z_ (show acc.length+([] ++ [r_]).length+12*gm l+2≤1000000 from by have h9:=HLEN.out;simp;omega);generalize [] ++ [r_]=Vo at *;go_loopw [18] (fun i wr=>∃ (j:Nat) (ws:List ByteArray) (r:Value),j≤N∧i=.int .i64 (j:Nat)∧Hid (PO.then (true,ws) ((mG (ks.drop j)).then ((ah [qg]).then (ah [])))=T)∧Hid (PB W u wr S Nb row r (acc++ws) #[.int .i64 k,.string t,.int .i64 m,.slice a N cc])∧Hid (acc.length+ws.length+12*gm (l.drop j)+2≤1000000)) (fun i _=>N-(intOf i).toNat)
   case atStart=>exact⟨0,Vo,_,Nat.zero_le _,rfl,by rw [List.drop_zero];exact HT,HB,by rw [List.drop_zero];exact rF⟩
   clear HT HB rF
   case round=>
    obtain⟨j,ws,r,hj,rfl,HT,HB,rF⟩:=hrel;by_cases hlt:j<N
    ·have hji:(j:Int)<(N:Int):=by omega
     have hjd:decide ((j:Int)<(N:Int))=true:=by simpa using hji
     have hjl:j<l.length:=by rw [HN.out];exact hlt
     obtain⟨b,o,k1,t1,m1,a1,n1,c1,ha,hu,q0,q1,q2,q3⟩:=gI HB.out.f.pw.ext HI.out j hjl;subst ha;have hdr:=IE l j hjl;rw [vG.out] at hdr;have hih:=HIH.out l[j] (List.getElem_mem hjl);have hpl:=(wu l[j]).1;have hln:=rF.out;rw [List.drop_eq_getElem_cons hjl] at hln;simp only [gm] at hln;generalize l[j]=x at *;obtain⟨p,hp⟩:∃ p,rZ x=p:=⟨_,rfl⟩;rw [hp] at hdr hpl;have SV:=Z_ hp;rw [hdr,mG] at HT;simp only [then_assoc] at HT;have jQ:=Z_ hln;obtain⟨K,hK⟩:∃ K,wr.heap.size=K:=⟨_,rfl⟩;have HKB:=Z_ (show aJ (wr.alloc (.cells #[.int .i64 k1,.string t1,.int .i64 m1,.slice a1 n1 c1] 24)) K #[.int .i64 k1,.string t1,.int .i64 m1,.slice a1 n1 c1] 24 by rw [←hK];exact aJ.made wr _ _);replace HB:=Z_ (HB.out.extend ((aB.refl (fun _=>False) wr).alloc (.cells #[.int .i64 k1,.string t1,.int .i64 m1,.slice a1 n1 c1] 24)))
     clear hp hdr hln rF;go_upto_region 7 with (fail)
     try rw [hK]
     generalize wr.alloc (.cells #[.int .i64 k1,.string t1,.int .i64 m1,.slice a1 n1 c1] 24)=u5 at *;clear q0 q1 q2 q3 hK;have iz:=Z_ (hih _ u5 r (acc++ws) HB.out.f.pw hu (by have:=jQ.out;rw [List.length_append];omega));rw [SV.out] at iz;have hkc:=HKB.out.cell;go_wp2_with fail
     clear hkc hu hih;refine iz.out.mono ?_
     rintro e w3 ⟨⟨row3,hF3⟩,he⟩;replace HB:=Z_ (HB.out.call hF3).assoc;clear hF3 iz;obtain⟨pb,pw⟩:=p;cases pb with
     | false=>
      obtain rfl:e=_:=he;simp only [Bool.false_eq_true,if_false];go_wp2_with fail
      exact⟨rfl,aG (by rw [←HT.out,di]) HB.out.f⟩
     | true=>
      obtain rfl:e=_:=he;rw [then_ok] at HT;simp only [if_true]
      try simp only at hpl
      have aw_:=Z_ (show acc.length+(ws++pw).length+12*gm (l.drop (j+1))+2≤1000000 from by have h9:=jQ.out;rw [List.length_append];omega);go_wp2_with fail
      go_roundw
      case rel=>exact⟨j+1,ws++pw,_,hlt,by go_num,HT,HB,aw_⟩
      case measure=>simp [intOf];omega
    ·obtain rfl:j=N:=by omega
     have hjd:decide ((j:Int)<(j:Int))=false:=by simp
     have hdn:ks.drop j=[]:=by rw [←vG.out];exact List.drop_eq_nil_of_le (by rw [FK,HN.out];exact Nat.le_refl _)
     rw [hdn,mG,aT] at HT;replace HB:=Z_ HB.out.nil;rw [List.append_assoc] at HB;have h9:=rF.out;go_wp2_with fail
     refine(bQ HB.out.f.pw [qg] _ rfl 1 rfl (by decide) (by simp;omega)).mono ?_
     rintro e w3 ⟨rfl,row3,hF3⟩;replace HB:=Z_ (HB.out.call hF3).assoc;clear hF3;rw [aT] at HT;go_wp2_with fail
     go_end0
     exact eU (by rw [←HT.out,fH]) HB.out.f
theorem SX {W:World} {S:Nat} (hv:ErrVar W) (hmv:dG W) (htab:Lib.TabIs Tryz.prog W "internal/strconv.uint64pow10" .u64 Lib.pow10Tab):∀ x,StC W S x∧BlC W S x:=by
 refine gz fun k t m l ih=>?_
 exact⟨uZ hv hmv htab k t m l fun x hx=>(ih x hx).2,rX k t m l fun x hx=>(ih x hx).1⟩
end prt
end Go.Proofs.YtpcihajmcejliacGreatDoor
