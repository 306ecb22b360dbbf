/- The walk of the checker's statements and blocks, joined. The checker between procedures: the row of bodies. The walk of the checker's body: one procedure. The checker's recover. -/
import Derived.Defers
import Derived.Recover
import Derived.Test.YtpcihajmcejliacGreatDoorChkTm
import Derived.Test.YtpcihajmcejliacGreatDoorChkVm
namespace Go.Proofs.YtpcihajmcejliacGreatDoor
open Go.RowKit
namespace chk
open bn dn
theorem both_any {W:World} {C Mo D K P B:Nat} {E:dH} {cH dB:Value} {dc:Array Value} {pr:aI} {H:Nat→Bool} (hmv:dw W):∀ x,jk x→(sG x.kd→DZ W C Mo D K P B E cH dB dc pr H x)∧(x.kd=6→uP W C Mo D K P B E cH dB dc pr H x):=by
 refine oP fun k t m l ih his=>⟨fun hk=>uV hmv _ his hk fun y hy h6=>(ih y hy (his.kids y hy)).2 h6,fun h6=>r_ _ fun y hy=>(ih y hy (his.kids y hy)).1 ?_⟩
 obtain rfl:k=6:=h6;have hf:=his.form;cases hf with
 | block hl=>exact hl y hy
theorem Ht {W:World} {C Mo D K P B:Nat} {E:dH} {cH dB:Value} {dc:Array Value} {pr:aI} {H:Nat→Bool} (hmv:dw W) (x:Nd) (his:jk x) (h6:x.kd=6):uP W C Mo D K P B E cH dB dc pr H x:=(both_any hmv x his).2 h6
end chk
end Go.Proofs.YtpcihajmcejliacGreatDoor
namespace Go.Proofs.YtpcihajmcejliacGreatDoor
open Go.RowKit
namespace chk
open bn dn
def Ac (_:aI×Tr) (v:Value) (_:World):Prop:=∃ g,v=.pointer (some ⟨g,0,none⟩)
theorem iV (x:aI×Tr) (u:Value) (w w':World) (_:bZ w w') (h:Ac x u w):Ac x u w':=h
theorem D8 (x:aI×Tr) (u:Value) (w w':World) (h:Ac x u w):Ac x u w':=h
end chk
namespace dn
theorem Hu:(Tryz.prog.info? 218).map (fun i=>(i.zero,i.size,i.bytes))=some (some (.pointer none),1,8):=by kernel_rfl
end dn
namespace chk
open bn dn
structure MS (W u:World) (C Mo D K Bm:Nat) (E:dH) (v2 v3 v5:Value) (at_:Int) (cH dB:Value) (dc:Array Value) (bs:List (aI×Tr)):Prop where
 ext:Ext W u
 c:aH u C #[.pointer (some ⟨Mo,0,none⟩),.map (some K),v2,v3,.int .i64 at_,v5,.pointer none] 221
 mo:aH u Mo #[.pointer (some ⟨D,0,none⟩),cH,dB] 125
 d:aH W D dc 128
 own:∃ v0 v1 v2 d3 d4 d5 d6 d7 d8,dc=#[v0,v1,v2,d3,d4,d5,d6,d7,d8]∧eC W E.own (.agg #[v0,v1,v2])
 k:∃ n,n≤E.known.length∧n_.ni W u K n E.known
 row:Grow 1 218 Ac Bm u cH bs
 hC:W.heap.size≤C
 hM:W.heap.size≤Mo
 hK:W.heap.size≤K
 cB:C<Bm
 mB:Mo<Bm
 kB:K<Bm
 cM:C≠Mo
 cK:C≠K
 mK:Mo≠K
 hu:Bm≤u.heap.size
theorem MS.extend {W u u':World} {C Mo D K Bm:Nat} {E:dH} {v2 v3 v5:Value} {at_:Int} {cH dB:Value} {dc:Array Value} {bs:List (aI×Tr)} (h:MS W u C Mo D K Bm E v2 v3 v5 at_ cH dB dc bs) (hE:Ext u u'):MS W u' C Mo D K Bm E v2 v3 v5 at_ cH dB dc bs:=by
 obtain⟨n,hn,hk⟩:=h.k;exact⟨h.ext.ext hE,h.c.ext hE,h.mo.ext hE,h.d,h.own,⟨n,hn,hk.aO hE id⟩,h.row.aO iV hE (fun _ e=>e.elim),h.hC,h.hM,h.hK,h.cB,h.mB,h.kB,h.cM,h.cK,h.mK,Nat.le_trans h.hu hE.size⟩
theorem MS.kV {W u u':World} {C Mo D K Bm:Nat} {E:dH} {v2 v3 v5 v2' Xn Xo:Value} {at_ at':Int} {cH dB:Value} {dc:Array Value} {bs:List (aI×Tr)} (h:MS W u C Mo D K Bm E v2 v3 v5 at_ cH dB dc bs) (hC:aB (fun i=>i=C) u u') (hc:aH u' C #[.pointer (some ⟨Mo,0,none⟩),.map (some K),v2',Xn,.int .i64 at',Xo,.pointer none] 221):MS W u' C Mo D K Bm E v2' Xn Xo at' cH dB dc bs:=by
 obtain⟨n,hn,hk⟩:=h.k;have h1:=h.hC;have h2:=h.cB;have h3:=h.cM;have h4:=h.cK
 exact⟨h.ext.trans hC (fun i hi e=>by omega),hc,h.mo.aO hC (fun e=>h3 e.symm),h.d,h.own,⟨n,hn,hk.aO hC (fun e=>h4 e.symm)⟩,h.row.aO iV hC (fun i e=>by omega),h1,h.hM,h.hK,h2,h.mB,h.kB,h3,h4,h.mK,Nat.le_trans h.hu hC.size⟩
theorem MS.begin {W u:World} {C Mo D K Bm P B:Nat} {E:dH} {at_:Int} {cH dB:Value} {dc pc:Array Value} {bs:List (aI×Tr)} (h:MS W u C Mo D K Bm E (.slice none 0 0) (.int .i64 1) (.pointer (some ⟨P,0,none⟩)) at_ cH dB dc bs) (hP:aH u P pc 297) (hp:Bm≤P) (hB:P<B) (hu:B≤u.heap.size):CS W u C Mo D K P B E (.slice none 0 0) [] 1 at_ cH dB dc pc:=by
 have h1:=h.hC;have h2:=h.cB;have h3:=h.mB;have h4:=h.kB;have h5:=h.hM;have h6:=h.hK
 exact⟨h.ext,h.c,h.mo,h.d,h.own,h.k,hP,Grow.nil _ _ _ _ _,h1,h.hM,h.hK,by omega,by omega,by omega,by omega,hB,h.cM,h.cK,by omega,h.mK,by omega,by omega,hu⟩
end chk
end Go.Proofs.YtpcihajmcejliacGreatDoor
namespace Go.Proofs.YtpcihajmcejliacGreatDoor
open Go.RowKit
namespace chk
open bn dn
def BS (C Mo:Nat) (cH:Value) (i:Nat):Prop:=i=C∨i=Mo∨cH.ownBlock=some i
def Hv (W u:World) (C Mo D K Bm:Nat) (E:dH) (at_:Nat) (cH dB:Value) (dc:Array Value) (bs:List (aI×Tr)) (pr:aI) (T:Rz Tr) (e:Ending) (u':World):Prop:=aB (BS C Mo cH) u u'∧match T with
 | .bad c p=>e=.panicked (mJ c (p:Nat))
 | .ok t=>e=.returned (.tuple #[])∧∃ v2 v3 v5 Hw,MS W u' C Mo D K Bm E v2 v3 v5 (at_:Nat) Hw dB dc (bs ++ [(pr,t)])∧(∀ i,Hw.ownBlock=some i→cH.ownBlock=some i∨u.heap.size≤i)
theorem ER {t:ByteArray} {m:Int} {l:List Nd} (h:Form 4 t m l):∃ ps b,l=ps ++ [b]∧(∀ y∈ps,y.kd=5)∧b.kd=6:=by
 cases h with
 | proc ht h0 h1 hp hb=>exact⟨_,_,rfl,hp,hb⟩
set_option maxRecDepth 100000 in
theorem Ad {u:World} {C:Nat} {x0 x1 x2 x3 x5 x6:Value} {at_:Int} (hc:aH u C #[x0,x1,x2,x3,.int .i64 at_,x5,x6] 221) (h0:0≤at_) (h1:at_≤100000) :
  Calls Tryz.prog 108 #[.pointer (some ⟨C,0,none⟩)] u fun e u'=>e=.returned (.int .i64 at_)∧aB (fun i=>i=C) u u'∧aH u' C #[x0,x1,x2,x3,.int .i64 (at_+1),x5,x6] 221:=by
 have HC:=Z_ hc;have q:=hc.cell;have qf:=hc.frozen;have ql:=hc.lt;have hw:IntKind.i64.wrap (at_+1)=at_+1:=wrap_small _ (by omega) (by omega);have hw2:IntKind.i64.wrap (at_+1-1)=at_:=by rw [wrap_small _ (by omega) (by omega)];omega
 have hw3:at_+1-1=at_:=by omega
 clear hc;go_enter Tryz.func108,Tryz.ntmps108
 go_wp2_with fail
 go_ret
 exact⟨by first|rfl|(rw [hw3]),ak (aB.refl _ _) 4 _,HC.out.set 4 (.int .i64 (at_+1))⟩
def BX (W u0 u:World) (C Mo D K P Nb:Nat) (E:dH) (L:List Loc) (q:Int) (cH dB:Value) (dc:Array Value) (pr:aI) (nc qc:Array Value):Prop:=∃ vl pc,CS W u C Mo D K P (P+1) E vl L 1 q cH dB dc pc∧yC pr pc∧aH u Nb nc 24∧aH u (Nb+1) qc 68∧aB (fun i=>i=C) u0 u∧u0.heap.size=Nb∧C<Nb∧Nb+1<P
theorem BX.far {W u:World} {C Mo D K P:Nat} {E:dH} {vl:Value} {L:List Loc} {q:Int} {cH dB:Value} {dc pc:Array Value} {Nb:Nat} (h1:CS W u C Mo D K P (P+1) E vl L 1 q cH dB dc pc) (_h7:C<Nb) (h8:Nb+1<P):∀ i,i≤Nb+1→LS C P vl i→i=C:=fun i hi e=>by
 rcases e with e|e|e
 ·exact e
 ·omega
 ·have:=bh h1.loc i e;omega
theorem BX.call {W u0 u u':World} {C Mo D K P Nb:Nat} {E:dH} {vl zI:Value} {L L':List Loc} {q q':Int} {cH dB:Value} {dc pc pc':Array Value} {pr:aI} {nc qc:Array Value} (h1:CS W u C Mo D K P (P+1) E vl L 1 q cH dB dc pc) (h3:aH u Nb nc 24) (h4:aH u (Nb+1) qc 68) (h5:aB (fun i=>i=C) u0 u) (h6:u0.heap.size=Nb∧C<Nb∧Nb+1<P) (hC:aB (LS C P vl) u u') (hcs:CS W u' C Mo D K P (P+1) E zI L' 1 q' cH dB dc pc') (hpc:yC pr pc'):BX W u0 u' C Mo D K P Nb E L' q' cH dB dc pr nc qc:=by
 have hf:=BX.far h1 h6.2.1 h6.2.2;have h7:=h6.1;have h8:=h6.2.1
 exact⟨zI,pc',hcs,hpc,h3.aO hC (fun e=>by have:=hf _ (by omega) e;omega),h4.aO hC (fun e=>by have:=hf _ (by omega) e;omega),h5.trans hC (fun i hi e=>hf i (by omega) e),h6⟩
theorem BX.Hy {W u0 u:World} {C Mo D K P Nb:Nat} {E:dH} {L:List Loc} {q:Int} {cH dB:Value} {dc:Array Value} {pr:aI} {nc qc:Array Value} (h:BX W u0 u C Mo D K P Nb E L q cH dB dc pr nc qc) (g:Nat):BX W u0 (u.setCell ⟨P,6,none⟩ (.pointer (some ⟨g,0,none⟩))) C Mo D K P Nb E L q cH dB dc pr nc qc:=by
 obtain⟨vl,pc,h1,⟨p1,p2,p3,b,mo,rfl,hm0,hm1⟩,h3,h4,h5,h6⟩:=h;have hC:=ak (S:=P) (aB.refl _ u) 6 (.pointer (some ⟨g,0,none⟩));exact BX.call h1 h3 h4 h5 h6 (hC.weak fun _ _ e=>.inr (.inl e)) (h1.Hl (hC.weak fun _ _ e=>.inr (.inl e)) (h1.c.aO hC h1.cP) (h1.p.set 6 _) (h1.loc.aO gJ hC fun i e=>by omega)) ⟨p1,p2,p3,_,mo,rfl,hm0,hm1⟩
theorem BX.p {W u0 u:World} {C Mo D K P Nb:Nat} {E:dH} {L:List Loc} {q:Int} {cH dB:Value} {dc:Array Value} {pr:aI} {nc qc:Array Value} (h:BX W u0 u C Mo D K P Nb E L q cH dB dc pr nc qc):∃ p1 p2 p3 b mo,aH u P #[.string pr.name,p1,p2,p3,.bool pr.gives,.int .i64 pr.given,b,.int .i64 mo] 297:=by
 obtain⟨vl,pc,h1,⟨p1,p2,p3,b,mo,rfl,-⟩,-⟩:=h;exact⟨p1,p2,p3,b,mo,h1.p⟩
def MB (u0 u:World) (C Mo D K P Bm:Nat) (vl:Value) (at_:Int) (cH dB:Value) (rN r:Value) (lq:List (aI×Tr)):Prop:=
 aB (fun i=>i=Mo∨cH.ownBlock=some i) u0 u∧aH u C (qw Mo K vl 1 at_ P) 221∧aH u Mo #[.pointer (some ⟨D,0,none⟩),rN,dB] 125∧je (fun _=>false) 1 218 Ac Bm u r lq∧(∀ i,r.ownBlock=some i→cH.ownBlock=some i∨u0.heap.size≤i)
def O1 (l:List Nd):Bool:=match l.getLast? with
 | some s=>decide (s.kd=14)
 | none=>false
theorem KI (E:dH) (pr:aI) (x:Nd) (at_:Nat):tJ E pr x at_=(yE E pr pr.writes true (rq x.kids.dropLast) 1 (x.kids.getLastD jf) (at_+1+x.kids.dropLast.length)).bind fun b=>if (pr.gives && !(O1 (x.kids.getLastD jf).kids))=true then .bad 2 at_ else .ok b:=rfl
def ES (pre post:World→Prop) (RY:Rz Tr):List Value→World→Prop
 | [],u=>pre u
 | v::_,u=>∃ t g,RY=.ok t∧v=.pointer (some ⟨g,0,none⟩)∧post u
theorem ES.any {pre post:World→Prop} {RY:Rz Tr} {vs:List Value} {u:World} {Q:Prop} (h:ES pre post RY vs u) (h1:pre u→Q) (h2:post u→Q):Q:=by
 match vs,h with
 | [],h=>exact h1 h
 | _::_,⟨_,_,_,_,h⟩=>exact h2 h
theorem BX.ptr {W u0 u:World} {C Mo D K P Nb:Nat} {E:dH} {L:List Loc} {q:Int} {cH dB:Value} {dc:Array Value} {pr:aI} {nc qc:Array Value} (h:BX W u0 u C Mo D K P Nb E L q cH dB dc pr nc qc):u.cell? ⟨C,5,none⟩=some (.pointer (some ⟨P,0,none⟩)):=by
 obtain⟨vl,pc,h1,-⟩:=h;exact(h1.c.cell 5).trans rfl
theorem BX.qb {W u0 u:World} {C Mo D K P Nb:Nat} {E:dH} {L:List Loc} {q:Int} {cH dB:Value} {dc:Array Value} {pr:aI} {nc qc:Array Value} (h:BX W u0 u C Mo D K P Nb E L q cH dB dc pr nc qc):∀ o9,u.cell? ⟨Nb+1,o9,none⟩=qc[o9]?:=by
 obtain⟨vl,pc,h1,h2,h3,h4,-⟩:=h;exact h4.cell
set_option maxRecDepth 100000 in
set_option maxHeartbeats 32000000 in
theorem Hz {W ua:World} {C Mo D K Bm:Nat} {E:dH} {v2 v3 v5:Value} {cH dB:Value} {dc:Array Value} {bs:List (aI×Tr)} {H:Nat→Bool} {p:Nat} (hmv:dw W) (hms:MS W ua C Mo D K Bm E v2 v3 v5 (p:Nat) cH dB dc bs) (x:Nd) (his:jk x) (hk:x.kd=4) (v:Value) (hnd:fE (hide H W) x v) (hsz:p+fP x≤1000) (hpl:x.kids.dropLast.length≤5) (pr:aI) (pb gv:Bool) (hgv:pr.gives=gv) (pa:Option Addr) (rX:Nat) (hbs:bs.length≤1000) :
  Calls Tryz.prog 110 #[.pointer (some ⟨C,0,none⟩),v,.agg #[.string pr.name,.bool pb,.slice pa pr.params.length rX,.int .i64 pr.writes,.bool gv,.int .i64 pr.given]] ua (Hv W ua C Mo D K Bm E (p+fP x) cH dB dc bs pr (tJ E pr x p)):=by
 obtain⟨k,t,m,l⟩:=x;obtain rfl:k=4:=hk;obtain⟨ps,bb,rfl,hps,hb6⟩:=ER his.form;rw [cG] at hnd;obtain⟨a,cc,rfl,hl1,hl2,hl3,hl4⟩:=hnd;obtain⟨T,hT⟩:∃ T,tJ E pr (.mk 4 t m (ps ++ [bb])) p=T:=⟨_,rfl⟩;rw [hT];have HT:=Z_ hT;have Q7:=Z_ hgv;have Xp:=Z_ hps;have Q8:=Z_ hb6;have HIS:=Z_ his.kids;obtain⟨n,hn⟩:∃ n,ps.length=n:=⟨_,rfl⟩;obtain⟨N,hN⟩:∃ N,(ps ++ [bb]).length=N:=⟨_,rfl⟩;have hNn:N=n+1:=by rw [←hN,←hn];simp
 have hn5:n≤5:=by have h:(ps ++ [bb]).dropLast.length≤5:=hpl;rw [←hn];simpa using h
 subst hNn;rw [hN] at hl1 ⊢;have zV:=Z_ hn;have HI:=Z_ (fun (ua:World) (hE:Ext W ua)=>hl4.keeps (aC hE fun i _ e=>e.elim) fun b o y=>fL (aC hE fun i _ e=>e.elim) b o y);have hE0:=((aB.refl (fun _=>False) ua).alloc (.cells #[.int .i64 4,.string t,.int .i64 m,.slice a (n+1) cc] 24)).alloc (.cells #[.string pr.name,.bool pb,.slice pa pr.params.length rX,.int .i64 pr.writes,.bool gv,.int .i64 pr.given] 68);have HM:=Z_ (hms.extend hE0);have yK:=Z_ hms;have HBS:=Z_ hbs;have HE:=Z_ hE0;have HB:=Z_ ((aH.made ua #[.int .i64 4,.string t,.int .i64 m,.slice a (n+1) cc] 24).alloc (.cells #[.string pr.name,.bool pb,.slice pa pr.params.length rX,.int .i64 pr.writes,.bool gv,.int .i64 pr.given] 68));have HQ:=Z_ (aH.made (ua.alloc (.cells #[.int .i64 4,.string t,.int .i64 m,.slice a (n+1) cc] 24)) #[.string pr.name,.bool pb,.slice pa pr.params.length rX,.int .i64 pr.writes,.bool gv,.int .i64 pr.given] 68)
 obtain⟨Nb,hNb⟩:∃ Nb,ua.heap.size=Nb:=⟨_,rfl⟩;have Yn:(ua.alloc (.cells #[.int .i64 4,.string t,.int .i64 m,.slice a (n+1) cc] 24)).heap.size=Nb+1:=by rw [←hNb];exact Array.size_push ..
 rw [hNb] at HB;rw [Yn] at HQ;have yG:=Z_ hNb;have Q9:=Z_ (show Bm≤Nb by rw [←hNb];exact hms.hu);have lM:=Z_ hsz;have hp:p≤1000:=by omega
 clear hT hps hb6 his hn hN hpl hl4 hms hE0 hsz hgv;go_enter Tryz.func110,Tryz.ntmps110
 go_upto_region 1 with (fail)
 try rw [Yn]
 try rw [hNb]
 clear Yn hNb;generalize (ua.alloc (.cells #[.int .i64 4,.string t,.int .i64 m,.slice a (n+1) cc] 24)).alloc (.cells #[.string pr.name,.bool pb,.slice pa pr.params.length rX,.int .i64 pr.writes,.bool gv,.int .i64 pr.given] 68)=u1 at *;go_wp2_with fail
 refine(Ad HM.out.c (by omega) (by omega)).mono ?_
 rintro e w2 ⟨rfl,hC2,hB2⟩;have Ae:=Z_ (HM.out.kV hC2 hB2);have HB2:=Z_ (HB.out.aO hC2 (by have:=HM.out.cB;have:=Q9.out;omega));have oK:=Z_ (HQ.out.aO hC2 (by have:=HM.out.cB;have:=Q9.out;omega));have nY:=Z_ ((HE.out.weak (S':=fun i=>i=C) fun _ _ e=>e.elim).then hC2);clear hC2 hB2 HM HB HQ HE;have hqc:=oK.out.cell;have hcc:=Ae.out.c.cell;have hcf:=Ae.out.c.frozen;have hcl:=Ae.out.c.lt;go_upto_region 4 with (fail)
 obtain⟨P,hP⟩:∃ P,w2.heap.size=P:=⟨_,rfl⟩;obtain⟨w3,hw3⟩:∃ w3,((w2.setCell ⟨C,5,none⟩ (.pointer (some ⟨P,0,none⟩))).setCell ⟨C,2,none⟩ (.slice none 0 0)).setCell ⟨C,3,none⟩ (.int .i64 1)=w3:=⟨_,rfl⟩;have nB:=ak (ak (ak (S:=C) (aB.refl _ w2) 5 (.pointer (some ⟨P,0,none⟩))) 2 (.slice none 0 0)) 3 (.int .i64 1);have hB3:=((Ae.out.c.set 5 (.pointer (some ⟨P,0,none⟩))).set 2 (.slice none 0 0)).set 3 (.int .i64 1);rw [hw3] at nB hB3;have Q_:=Z_ ((Ae.out.kV nB hB3).extend ((aB.refl (fun _=>False) w3).alloc (.cells #[.string pr.name,.bool pb,.slice pa pr.params.length rX,.int .i64 pr.writes,.bool gv,.int .i64 pr.given,.pointer none,.int .i64 0] 297)));have GI:w3.heap.size=P:=by rw [←hw3,←hP];simp
 rw [hP,hw3];have Yo:=aH.made w3 #[.string pr.name,.bool pb,.slice pa pr.params.length rX,.int .i64 pr.writes,.bool gv,.int .i64 pr.given,.pointer none,.int .i64 0] 297;rw [GI] at Yo;have KJ:=Z_ Yo;have HB4:=Z_ ((HB2.out.aO nB (by have:=Ae.out.cB;have:=Q9.out;omega)).alloc (.cells #[.string pr.name,.bool pb,.slice pa pr.params.length rX,.int .i64 pr.writes,.bool gv,.int .i64 pr.given,.pointer none,.int .i64 0] 297));have Rf:=Z_ ((oK.out.aO nB (by have:=Ae.out.cB;have:=Q9.out;omega)).alloc (.cells #[.string pr.name,.bool pb,.slice pa pr.params.length rX,.int .i64 pr.writes,.bool gv,.int .i64 pr.given,.pointer none,.int .i64 0] 297));have S0:=Z_ ((nY.out.then nB).alloc (.cells #[.string pr.name,.bool pb,.slice pa pr.params.length rX,.int .i64 pr.writes,.bool gv,.int .i64 pr.given,.pointer none,.int .i64 0] 297))
 have Rh:Nb+1<P:=by rw [←hP];exact oK.out.lt
 clear hw3 nB hB3 Yo GI hP HB2 oK Ae nY hqc hcc hcf hcl;generalize w3.alloc (.cells #[.string pr.name,.bool pb,.slice pa pr.params.length rX,.int .i64 pr.writes,.bool gv,.int .i64 pr.given,.pointer none,.int .i64 0] 297)=u4 at *;have Ri:=Z_ (Q_.out.begin (B:=P+1) KJ.out (by have:=Q9.out;omega) (by omega) KJ.out.lt);have Yp:=Z_ (show BX W ua u4 C Mo D K P Nb E [] ((p:Nat)+1) cH dB dc pr #[.int .i64 4,.string t,.int .i64 m,.slice a (n+1) cc] #[.string pr.name,.bool pb,.slice pa pr.params.length rX,.int .i64 pr.writes,.bool gv,.int .i64 pr.given] from⟨_,_,Ri.out,⟨_,_,_,_,_,by rw [Q7.out],Int.le_refl _,by decide⟩,HB4.out,Rf.out,S0.out,yG.out,by have:=Q_.out.cB;have:=Q9.out;omega,Rh⟩);clear Ri KJ HB4 Rf S0 Q_;obtain⟨-,-,-,-,hbb,-,-⟩:=Yp.out;have hbc:=hbb.cell;clear hbb
 have hwn:IntKind.i64.wrap ((n:Int)+1-1)=(n:Int):=by rw [wrap_small _ (by omega) (by omega)];omega
 have hni:(n:Int)≤(cc:Int):=by omega
 have hn0:(0:Int)≤(n:Int):=by omega
 go_wp2_with fail
 clear hbc hwn hni hn0;go_loopw [35] (fun i wr=>∃ j:Nat,j≤n∧i=.int .i64 (j:Nat)∧Hid (BX W ua wr C Mo D K P Nb E (rq (ps.take j)) ((p:Nat)+1+(j:Int)) cH dB dc pr #[.int .i64 4,.string t,.int .i64 m,.slice a (n+1) cc] #[.string pr.name,.bool pb,.slice pa pr.params.length rX,.int .i64 pr.writes,.bool gv,.int .i64 pr.given])) (fun i _=>n-(intOf i).toNat)
 case atStart=>exact⟨0,Nat.zero_le _,rfl,by rw [List.take_zero];exact Yp⟩
 clear Yp
 case round=>
  obtain⟨j,hj,rfl,HX⟩:=hrel;by_cases hlt:j<n
  ·have hji:(j:Int)<(n:Int):=by omega
   have hjd:decide ((j:Int)<(n:Int))=true:=by simpa using hji
   have GK:j<ps.length:=by rw [zV.out];exact hlt
   have hjl:j<(ps ++ [bb]).length:=by rw [List.length_append,zV.out];simp;omega
   obtain⟨b,o,rfl,hb,uv,hu,hus,hcl⟩:=HI.out W (aB.refl _ _) j hjl;rw [bK] at hb;have hy5:=Xp.out _ (List.getElem_mem GK);have hyi:=HIS.out _ (List.getElem_mem hjl);have hye:(ps ++ [bb])[j]=ps[j]:=List.getElem_append_left GK;have ru:=Z_ (show rq (ps.take (j+1))=rq (ps.take j) ++ [⟨ps[j].tx,ps[j].nm,1⟩] by unfold rq;rw [List.take_succ_eq_append_getElem GK,List.map_append];rfl);rw [hye] at hu hyi;generalize ps[j]=y at hu hy5 hyi ru;obtain⟨k1,t1,m1,l1⟩:=y;obtain rfl:k1=5:=hy5;rw [cG] at hu;obtain⟨a1,c1,rfl,-,-,hts,-⟩:=hu;have Xq:=Z_ hts;have Cj:=Z_ HX.out;obtain⟨D7,GH,ry,Af,ET,H6,H7,EU⟩:=Cj.out;have hE:=ry.ext;have q0:wr.cell? ⟨b,o+j*4,none⟩=some (.int .i64 5):=(hE.cell (p:=⟨b,o+j*4,none⟩) hb id).trans ((az _ W).2 _ _ ((hcl 0 (by decide)).trans rfl))
   have q1:wr.cell? ⟨b,o+j*4+1,none⟩=some (.string t1):=(hE.cell (p:=⟨b,o+j*4+1,none⟩) hb id).trans ((az _ W).2 _ _ ((hcl 1 (by decide)).trans rfl));have q2:wr.cell? ⟨b,o+j*4+2,none⟩=some (.int .i64 m1):=(hE.cell (p:=⟨b,o+j*4+2,none⟩) hb id).trans ((az _ W).2 _ _ ((hcl 2 (by decide)).trans rfl));have q3:wr.cell? ⟨b,o+j*4+3,none⟩=some (.slice a1 l1.length c1):=(hE.cell (p:=⟨b,o+j*4+3,none⟩) hb id).trans ((az _ W).2 _ _ ((hcl 3 (by decide)).trans rfl));have HK:=Z_ (aH.made wr #[.int .i64 5,.string t1,.int .i64 m1,.slice a1 l1.length c1] 24);obtain⟨Kb,hKb⟩:∃ Kb,wr.heap.size=Kb:=⟨_,rfl⟩;rw [hKb] at HK;have hPK:P+1≤Kb:=by rw [←hKb];exact ry.hu
   have H8:=Z_ (ry.extend ((aB.refl (fun _=>False) wr).alloc (.cells #[.int .i64 5,.string t1,.int .i64 m1,.slice a1 l1.length c1] 24)));have GL:=Z_ (ET.alloc (.cells #[.int .i64 5,.string t1,.int .i64 m1,.slice a1 l1.length c1] 24));have Nz:=Z_ (H6.alloc (.cells #[.int .i64 5,.string t1,.int .i64 m1,.slice a1 l1.length c1] 24));have Nw:=Z_ (H7.alloc (.cells #[.int .i64 5,.string t1,.int .i64 m1,.slice a1 l1.length c1] 24));have HZ:=Z_ EU;have O3:=Z_ Af;have hOW:∀ i,D7.ownBlock=some i→i<Kb:=fun i e=>by rw [←hKb];exact(bh ry.loc i e).2
   have HOW:=Z_ hOW;clear ry ET H6 H7 EU Af hOW hE hts hcl hus hyi hye HX;go_upto_region 8 with (fail)
   try rw [hKb]
   generalize wr.alloc (.cells #[.int .i64 5,.string t1,.int .i64 m1,.slice a1 l1.length c1] 24)=u5 at *;clear q0 q1 q2 q3 hKb;go_wp2_with fail
   refine(next_any H8.out.c (by omega) (by omega)).mono ?_
   rintro e w2 ⟨rfl,hC2,hB2⟩;have S5:=Z_ (H8.out.kV hC2 hB2);have Q8:=Z_ (GL.out.aO hC2 (by have:=HZ.out;omega));have HQ6:=Z_ (Nz.out.aO hC2 (by have:=HZ.out;omega));have OA:=Z_ (Nw.out.then hC2);have S9:=Z_ (HK.out.aO hC2 (by have:=HZ.out;omega));clear hC2 hB2 H8 GL Nz Nw HK;have hkc:=S9.out.cell;go_wp2_with fail
   have S_:(rq (ps.take j)).length≤100:=by simp [rq];omega
   refine(Ag S5.out O3.out S_ t1 Xq.out m1).mono ?_
   rintro e w3 ⟨vl7,pc7,rfl,O4,Tc,Td,-⟩;have CU:=Z_ (BX.call S5.out Q8.out HQ6.out OA.out HZ.out O4 Tc Td);clear O4 Tc Td S_;go_wp2_with fail
   go_roundw
   case rel=>exact⟨j+1,by omega,by go_num,by rw [ru.out];have:=CU;rw [show ((p:Nat):Int)+1+((j+1:Nat):Int)=(p:Int)+1+(j:Int)+1 by omega];exact this⟩
   case measure=>simp [intOf];omega
  ·obtain rfl:j=n:=by omega
   have hjd:decide ((j:Int)<(j:Int))=false:=by simp
   have hjl:j<(ps ++ [bb]).length:=by rw [List.length_append,zV.out];simp
   obtain⟨b,o,rfl,hb,uv,hu,hus,hcl⟩:=HI.out W (aB.refl _ _) j hjl;rw [bK] at hb;have hyi:=HIS.out _ (List.getElem_mem hjl);have hye:(ps ++ [bb])[j]=bb:=by have h:=zV.out;subst h;simp
   rw [hye] at hu hyi;obtain⟨q1,hq1⟩:∃ q1:Nat,p+1+j=q1:=⟨_,rfl⟩;have kR:=Z_ (show BX W ua wr C Mo D K P Nb E (rq ps) ((q1:Nat):Int) cH dB dc pr #[.int .i64 4,.string t,.int .i64 m,.slice (some ⟨b,o,none⟩) (j+1) cc] #[.string pr.name,.bool pb,.slice pa pr.params.length rX,.int .i64 pr.writes,.bool gv,.int .i64 pr.given] from by have h:=HX.out;rw [List.take_of_length_le (by rw [zV.out];exact Nat.le_refl _),show ((p:Nat):Int)+1+(j:Int)=((q1:Nat):Int) by omega] at h;exact h)
   have hq2:q1+fP bb=p+fP (.mk 4 t m (ps ++ [bb])):=by
    have h1:∀ l:List Nd,(∀ y∈l,y.kd=5)→(∀ y∈l,jk y)→kJ (l ++ [bb])=l.length+fP bb:=fun l=>by
     induction l with
     | nil=>intro _ _;simp [kJ]
     | cons z r ih=>
      intro h5 hi;obtain⟨k9,t9,m9,l9⟩:=z;obtain rfl:k9=5:=h5 _ (List.mem_cons_self ..);have hf:=(hi _ (List.mem_cons_self ..)).form;rw [List.cons_append];simp only [kJ,List.length_cons];rw [ih (fun y hy=>h5 y (List.mem_cons_of_mem _ hy)) (fun y hy=>hi y (List.mem_cons_of_mem _ hy))];cases hf
      simp only [fP,kJ];omega
    have h2:=h1 ps Xp.out (fun y hy=>HIS.out y (List.mem_append_left _ hy));simp only [fP];rw [h2,zV.out];omega
   have oK:=Z_ hq2;rw [←hq2] at lM;obtain⟨RY,OM⟩:∃ RY,yE E pr pr.writes true (rq ps) 1 bb q1=RY:=⟨_,rfl⟩;have hT2:=HT.out;rw [KI] at hT2;simp only [Nd.kids,List.dropLast_concat,List.getLastD_concat,zV.out,hq1,OM] at hT2;have HT2:=Z_ hT2;have Q5:=Z_ OM;have hb6:=Q8.out;obtain⟨k1,t1,m1,l1⟩:=bb;obtain rfl:k1=6:=hb6;have HBI:=Z_ hyi;have HU:=Z_ hu;rw [cG] at hu;obtain⟨a1,c1,rfl,hk1,hk2,-,hk4⟩:=hu;obtain⟨N1,hN1⟩:∃ N1,l1.length=N1:=⟨_,rfl⟩;rw [hN1] at hk1 hcl HU;have KL:=Z_ hN1;have HI1:=Z_ (fun (ua:World) (hE:Ext W ua)=>hk4.keeps (aC hE fun i _ e=>e.elim) fun b o y=>fL (aC hE fun i _ e=>e.elim) b o y);obtain⟨D7,GH,ry,Af,ET,H6,H7,EU⟩:=kR.out;have hE:=ry.ext;have q0:wr.cell? ⟨b,o+j*4,none⟩=some (.int .i64 6):=(hE.cell (p:=⟨b,o+j*4,none⟩) hb id).trans ((az _ W).2 _ _ ((hcl 0 (by decide)).trans rfl))
   have q01:wr.cell? ⟨b,o+j*4+1,none⟩=some (.string t1):=(hE.cell (p:=⟨b,o+j*4+1,none⟩) hb id).trans ((az _ W).2 _ _ ((hcl 1 (by decide)).trans rfl));have q02:wr.cell? ⟨b,o+j*4+2,none⟩=some (.int .i64 m1):=(hE.cell (p:=⟨b,o+j*4+2,none⟩) hb id).trans ((az _ W).2 _ _ ((hcl 2 (by decide)).trans rfl));have q03:wr.cell? ⟨b,o+j*4+3,none⟩=some (.slice a1 N1 c1):=(hE.cell (p:=⟨b,o+j*4+3,none⟩) hb id).trans ((az _ W).2 _ _ ((hcl 3 (by decide)).trans rfl));obtain⟨Kb,hKb⟩:∃ Kb,wr.heap.size=Kb:=⟨_,rfl⟩;have HK:=Z_ (show aH (wr.alloc (.cells #[.int .i64 6,.string t1,.int .i64 m1,.slice a1 N1 c1] 24)) Kb #[.int .i64 6,.string t1,.int .i64 m1,.slice a1 N1 c1] 24 by rw [←hKb];exact aH.made wr _ _);have hPK:P+1≤Kb:=by rw [←hKb];exact ry.hu
   have H8:=Z_ (ry.extend ((aB.refl (fun _=>False) wr).alloc (.cells #[.int .i64 6,.string t1,.int .i64 m1,.slice a1 N1 c1] 24)));have GL:=Z_ (ET.alloc (.cells #[.int .i64 6,.string t1,.int .i64 m1,.slice a1 N1 c1] 24));have Nz:=Z_ (H6.alloc (.cells #[.int .i64 6,.string t1,.int .i64 m1,.slice a1 N1 c1] 24));have Nw:=Z_ (H7.alloc (.cells #[.int .i64 6,.string t1,.int .i64 m1,.slice a1 N1 c1] 24));have HZ:=Z_ EU;have O3:=Z_ Af;have HOW:=Z_ (show ∀ i,D7.ownBlock=some i→i<Kb from fun i e=>by rw [←hKb];exact(bh ry.loc i e).2);have hji:(j:Int)<(j:Int)+1:=by omega
   have hbc:=ET.cell;clear ry Af ET H6 H7 EU hE hcl hus hyi hye HX kR hT2 OM hk4 hN1 hq1 hq2;go_upto_region 12 with (fail)
   try rw [hKb]
   generalize wr.alloc (.cells #[.int .i64 6,.string t1,.int .i64 m1,.slice a1 N1 c1] 24)=u5 at *;clear q0 q01 q02 q03 hKb hbc;refine ah [8,11] (fun i v _=>v=([.pointer (some ⟨C,0,none⟩),.pointer (some ⟨C,0,none⟩),.pointer (some ⟨C,5,none⟩),.pointer (some ⟨P,0,none⟩),.pointer (some ⟨C,0,none⟩),.agg #[.int .i64 6,.string t1,.int .i64 m1,.slice a1 N1 c1],.pointer (some ⟨Nb+1,3,none⟩),.int .i64 pr.writes,undef,.pointer (some ⟨P,0,none⟩),.pointer (some ⟨P,6,none⟩),undef]:List Value).getD i undef) (ES (fun u9=>CS W u9 C Mo D K P (P+1) E D7 (rq ps) 1 ((q1:Nat):Int) cH dB dc GH∧aH u9 Nb #[.int .i64 4,.string t,.int .i64 m,.slice (some ⟨b,o,none⟩) (j+1) cc] 24∧aH u9 (Nb+1) #[.string pr.name,.bool pb,.slice pa pr.params.length rX,.int .i64 pr.writes,.bool gv,.int .i64 pr.given] 68∧aB (fun i=>i=C) ua u9∧aH u9 Kb #[.int .i64 6,.string t1,.int .i64 m1,.slice a1 N1 c1] 24) (fun u9=>BX W ua u9 C Mo D K P Nb E (rq ps) ((q1+fP (.mk 6 t1 m1 l1):Nat):Int) cH dB dc pr #[.int .i64 4,.string t,.int .i64 m,.slice (some ⟨b,o,none⟩) (j+1) cc] #[.string pr.name,.bool pb,.slice pa pr.params.length rX,.int .i64 pr.writes,.bool gv,.int .i64 pr.given]∧aH u9 Kb #[.int .i64 6,.string t1,.int .i64 m1,.slice a1 N1 c1] 24) RY) (fun _ _=>True) (frame:=?Ah) (fun x=>?oQ) bn.mixed (by kernel_rfl) (by kernel_rfl) (fun _ _ _ _ h _=>h) ?Ai ?Aj ?oU
   case oQ=>
    simp only [chain.aK,chain.fill,chain.bf,chain.aW,jJ,jK,jL,jM,jO,jP,jQ,jR,jS];exact rfl
   case Ai=>exact⟨H8.out.extend (aB.refl _ _).drew,GL.out.drew,Nz.out.drew,Nw.out.drew,HK.out.drew⟩
   case Aj=>
    iterate 12 (refine ai.cons (fun x vs u hF hm hb hd K' hK'=>?_) ?_;rotate_left)
    exact ai.nil
    ·have HF:=Z_ hF;clear hd hm hb hF;go_simp;exact hK'.out _ _ _ (rfl) trivial ⟨rfl,HF.out⟩
    ·have y0:x 53=.pointer (some ⟨C,0,none⟩):=(D_ hd 0 :);have HF:=Z_ hF;clear hd hm hb hF;go_simp;exact hK'.out _ _ _ (by simp only [y0];rfl) trivial ⟨rfl,HF.out⟩
    ·have y0:x 54=.pointer (some ⟨C,0,none⟩):=(D_ hd 1 :);have HF:=Z_ hF;clear hd hm hb hF;go_simp;exact hK'.out _ _ _ (by simp only [y0];rfl) trivial ⟨rfl,HF.out⟩
    ·have hq:=ES.any hF (Q:=u.cell? ⟨C,5,none⟩=some (.pointer (some ⟨P,0,none⟩))) (fun h=>(h.1.c.cell 5).trans rfl) (fun h=>h.1.ptr);have y0:x 55=.pointer (some ⟨C,5,none⟩):=(D_ hd 2 :);have HF:=Z_ hF;clear hd hm hb hF;go_simp;exact hK'.out _ _ _ (by simp only [y0];rfl) trivial ⟨rfl,HF.out⟩
    ·have HF:=Z_ hF;clear hd hm hb hF;go_simp;exact hK'.out _ _ _ (rfl) trivial ⟨rfl,HF.out⟩
    ·have hq:=ES.any hF (Q:=∀ o9,u.cell? ⟨Kb,o9,none⟩=#[.int .i64 6,.string t1,.int .i64 m1,.slice a1 N1 c1][o9]?) (fun h=>h.2.2.2.2.cell) (fun h=>h.2.cell);have HF:=Z_ hF;clear hd hm hb hF;go_simp;exact hK'.out _ _ _ (rfl) trivial ⟨rfl,HF.out⟩
    ·have HF:=Z_ hF;clear hd hm hb hF;go_simp;exact hK'.out _ _ _ (rfl) trivial ⟨rfl,HF.out⟩
    ·have hq:=ES.any hF (Q:=∀ o9,u.cell? ⟨Nb+1,o9,none⟩=#[.string pr.name,.bool pb,.slice pa pr.params.length rX,.int .i64 pr.writes,.bool gv,.int .i64 pr.given][o9]?) (fun h=>h.2.2.1.cell) (fun h=>h.1.qb);have y0:x 59=.pointer (some ⟨Nb+1,3,none⟩):=(D_ hd 6 :);have HF:=Z_ hF;clear hd hm hb hF;go_simp;exact hK'.out _ _ _ (by simp only [y0];rfl) trivial ⟨rfl,HF.out⟩
    ·obtain rfl:=kF hm;have y0:x 57=.pointer (some ⟨C,0,none⟩):=(D_ hd 4 :);have y1:x 58=.agg #[.int .i64 6,.string t1,.int .i64 m1,.slice a1 N1 c1]:=(D_ hd 5 :);have y2:x 60=.int .i64 pr.writes:=(D_ hd 7 :);have hF1:=(show _∧_ from hF);have hsb:=lM.out;have hnp:=zV.out;have kR:=Z_ (Ht hmv _ HBI.out rfl _ true pr.writes u q1 D7 (rq ps) 1 GH hF1.1 O3.out HU.out (by omega) (by simp only [rq,List.length_map];omega) (by decide) (by omega));have HF:=Z_ hF1;clear hd hm hb hF hF1 hsb hnp;go_simp;refine kR.out.mono ?_
     rintro e u2 ⟨iU,jH⟩;obtain⟨H9,H_,Ia,yL,Yq⟩:=HF.out;have hz:=HZ.out;rw [Q5.out] at jH;cases RY with
     | bad c9 p9=>
      obtain rfl:e=_:=jH;have uz:=(yL.weak (S':=BS C Mo cH) fun _ _ e=>.inl e).trans iU (fun i hi e=>.inl (BX.far H9 hz.2.1 hz.2.2 i (by omega) e));go_wp2_with fail
      exact⟨rfl,uz,by rw [←HT2.out];rfl⟩
     | ok t6=>
      obtain⟨g6,oD,oG,rfl,ND,CZ,C0,uf,EN,EO⟩:=jH;have Yr:=BX.call H9 H_ Ia yL hz iU CZ C0;have yH:=Yq.aO iU (fun e=>by
      rcases e with e|e|e
      ·omega
      ·omega
      ·have:=HOW.out _ e;omega)
      exact hK'.out _ _ _ (by simp only [y0,y1,y2];rfl) trivial ⟨t6,g6,rfl,rfl,Yr,yH⟩
    ·have y0:x 56=.pointer (some ⟨P,0,none⟩):=(D_ hd 3 :);have HF:=Z_ hF;clear hd hm hb hF;go_simp;exact hK'.out _ _ _ (by simp only [y0];rfl) trivial ⟨rfl,HF.out⟩
    ·have y0:x 62=.pointer (some ⟨P,0,none⟩):=(D_ hd 9 :);have HF:=Z_ hF;clear hd hm hb hF;go_simp;exact hK'.out _ _ _ (by simp only [y0];rfl) trivial ⟨rfl,HF.out⟩
    ·obtain⟨v0,rfl⟩:=lK hm
     have y0:x 63=.pointer (some ⟨P,6,none⟩):=(D_ hd 10 :);have y1:x 61=v0:=((D_ hd 8) 61 (by kernel_rfl) :);obtain⟨t6,g6,ng,rfl,hF1,hF2⟩:=hF;obtain⟨p91,p92,p93,p94,p95,hpb⟩:=hF1.p;have hq:=hpb.cell;have yI:=hpb.frozen;have kN:=hpb.lt;have HF:=Z_ hF1;have HF2:=Z_ hF2;have HRT:=Z_ ng;clear hd hm hb hF1 hF2 ng hpb;go_simp;exact hK'.out _ _ undef (by simp only [y0,y1];rfl) trivial ⟨t6,g6,HRT.out,rfl,HF.out.Hy g6,HF2.out.setOther (p:=⟨P,6,none⟩) (by show Kb≠P;omega) _⟩
   case oU=>
    intro x9 qj w9 hl hF hk9;obtain⟨v0,v1,rfl⟩:=CV hl
    obtain⟨t6,g6,ng,rfl,hF1,hF2⟩:=hF;rw [ng] at HT2;have HT3:=Z_ HT2.out;simp only [Rz.bind] at HT3;have GG:=Z_ hF1;have KN:=Z_ hF2;clear hk9 hl hF1 hF2 ng HT2;have hkc:=KN.out.cell;have hqc:=GG.out.qb;go_upto_region 14 with (fail)
    obtain⟨MM,KO⟩:∃ MM,(pr.gives && !(O1 l1))=MM:=⟨_,rfl⟩;rw [KO] at HT3;have Rj:=Z_ (show aB (BS C Mo cH) ua w9 from by obtain⟨_,_,_,_,_,_,h,_⟩:=GG.out;exact h.weak fun _ _ e=>.inl e);have HXT:=Z_ (show Ext W w9 from by obtain⟨_,_,h,_⟩:=GG.out;exact h.ext);go_cut [] (fun w'=>w'=w9∧MM=false)
    case first=>
     cases gv with
     | false=>
      go_wp2_with fail
      refine(dK 2 (p:Nat) _).mono ?_
      rintro e w9 ⟨rfl,rfl⟩;go_wp2_with fail
      go_meet
      exact⟨rfl,by rw [←KO,Q7.out];rfl⟩
     | true=>
      rw [Q7.out] at KO;rcases Nat.eq_zero_or_pos N1 with h0|h0
      ·subst h0
       have hl0:=List.eq_nil_of_length_eq_zero KL.out;subst hl0;obtain rfl:MM=true:=KO.symm;have HT4:=Z_ (show (.bad 2 p:Rz Tr)=T from HT3.out);go_wp2_with fail
       refine(eY 2 (p:Nat) _).mono ?_
       rintro e w9 ⟨rfl,rfl⟩;go_wp2_with fail
       exact⟨rfl,Rj.out,by rw [←HT4.out]⟩
      ·have Tf:N1-1<l1.length:=by rw [KL.out];omega
       obtain⟨b1,o1,rfl,hb1,uv1,hu1,ac7,Yt⟩:=HI1.out W (aB.refl _ _) (N1-1) Tf;rw [bK] at hb1;have hgl:l1.getLast? = some l1[N1-1]:=by rw [List.getLast?_eq_getElem?,KL.out,List.getElem?_eq_getElem Tf]
       unfold O1 at KO;rw [hgl] at KO;generalize l1[N1-1]=y1 at hu1 KO;obtain⟨k2,t2,m2,l2⟩:=y1;rw [cG] at hu1;obtain⟨a2,c2,rfl,-⟩:=hu1;have q9:w9.cell? ⟨b1,o1+(N1-1)*4,none⟩=some (.int .i64 k2):=(HXT.out.cell (p:=⟨b1,o1+(N1-1)*4,none⟩) hb1 id).trans ((az _ W).2 _ _ ((Yt 0 (by decide)).trans rfl));obtain⟨n1,rfl⟩:∃ n1,N1=n1+1:=⟨N1-1,by omega⟩;rw [Nat.add_sub_cancel] at q9;have hpo:(0:Int)<(n1:Int)+1:=Int.lt_add_one_of_le (Int.natCast_nonneg n1);have hpd:decide ((0:Int)<(n1:Int)+1)=true:=decide_eq_true hpo;have ac8:wrap64 (n1:Int)=(n1:Int):=by have h1:=nX l1;have h2:=lM.out;have h4:=KL.out;simp only [fP] at h2;exact IntWalk.wrap64_in _ (by omega)
       have hin:(n1:Int)<(n1:Int)+1:=by omega
       by_cases h14:k2=14
       ·subst h14
        obtain rfl:MM=false:=KO.symm;go_wp2_with fail
        refine(dK 2 (p:Nat) _).mono ?_
        rintro e w9 ⟨rfl,rfl⟩;go_wp2_with fail
        go_meet
        first|exact⟨rfl,rfl⟩|exact⟨rfl,trivial⟩
       ·have ac9:(k2 == 14)=false:=by simpa using h14
        obtain rfl:MM=true:=by rw [←KO];simp [Nd.kd,h14]
        have HT4:=Z_ (show (.bad 2 p:Rz Tr)=T from HT3.out);go_wp2_with fail
        refine(eY 2 (p:Nat) _).mono ?_
        rintro e w9 ⟨rfl,rfl⟩;go_wp2_with fail
        exact⟨rfl,Rj.out,by rw [←HT4.out]⟩
    case rest=>
     clear hqc hkc;obtain⟨hw,rfl⟩:=hcut;subst hw;have HT4:=Z_ (show (.ok t6:Rz Tr)=T from HT3.out);have C_:=Z_ (show Grow 1 218 Ac Bm wc cH bs from by obtain⟨_,_,_,_,_,_,h,_⟩:=GG.out;exact yK.out.row.aO iV h fun i e=>by have:=yK.out.cB;omega);obtain⟨vl8,pc8,H9,Ti,H_,Ia,yL,KP⟩:=GG.out;obtain⟨ra,rc,Tj,hr1,hr2⟩:=dV C_.out;obtain⟨nb,O5⟩:∃ nb,bs.length=nb:=⟨_,rfl⟩;rw [O5] at Tj hr1;have ac_:=Z_ O5;have KQ:=Z_ (fun i e=>bh C_.out i e);subst Tj;have O6:=Z_ H9;have HH:=Z_ (And.intro H_ (And.intro Ia (And.intro yL KP)));have HPW:=Z_ Ti;clear H9 Ti H_ Ia yL KP O5;go_upto_region 15 with (fail)
     refine ah [15,16,19] (fun i v _=>v=([.pointer (some ⟨C,0,none⟩),.pointer (some ⟨C,0,none⟩),.pointer (some ⟨C,0,none⟩),.pointer (some ⟨Mo,0,none⟩),.pointer (some ⟨C,0,none⟩),.pointer (some ⟨C,0,none⟩),.pointer (some ⟨C,0,none⟩),.pointer (some ⟨Mo,0,none⟩),.pointer (some ⟨Mo,0,none⟩),.pointer (some ⟨Mo,1,none⟩),.slice ra nb rc,.pointer (some ⟨C,0,none⟩),.pointer (some ⟨C,0,none⟩),.pointer (some ⟨C,5,none⟩),.pointer (some ⟨P,0,none⟩),undef,undef,.pointer (some ⟨Mo,0,none⟩),.pointer (some ⟨Mo,1,none⟩),undef]:List Value).getD i undef) (dn.eu (fun u9 rN r lq=>MB wc u9 C Mo D K P Bm vl8 ((q1+fP (.mk 6 t1 m1 l1):Nat):Int) (.slice ra nb rc) dB rN r lq) (fun _=>false) Ac Bm 218 (.slice ra nb rc) bs (pr,t6) (.pointer (some ⟨P,0,none⟩))) (fun _ _=>True) (frame:=?Yu) (fun x=>?O7) bn.mixed (by kernel_rfl) (by kernel_rfl) (fun _ _ _ _ h _=>h) ?Yv ?Yw ?O8
     case O7=>
      simp only [chain.aK,chain.fill,chain.bf,chain.aW,jJ,jK,jL,jM,jO,jP,jQ,jR,jS];exact rfl
     case Yv=>exact⟨⟨(aB.refl _ _).drew,O6.out.c.drew,O6.out.mo.drew,eG (mM C_.out D8 (fun _=>false)) iV (aB.refl (fun _=>False) wc).drew (fun i e=>e.elim) (fun i e e2=>e2.elim) (fun i e=>by cases e),fun i e=>.inl e⟩,P,rfl⟩
     case Yw=>
      iterate 20 (refine ai.cons (fun x vs u hF hm hb hd K' hK'=>?_) ?_;rotate_left)
      exact ai.nil
      ·have HF:=Z_ hF;clear hd hm hb hF;go_simp;exact hK'.out _ _ _ (rfl) trivial ⟨rfl,HF.out⟩
      ·have y0:x 86=.pointer (some ⟨C,0,none⟩):=(D_ hd 0 :);have HF:=Z_ hF;clear hd hm hb hF;go_simp;exact hK'.out _ _ _ (by simp only [y0];rfl) trivial ⟨rfl,HF.out⟩
      ·have y0:x 87=.pointer (some ⟨C,0,none⟩):=(D_ hd 1 :);have HF:=Z_ hF;clear hd hm hb hF;go_simp;exact hK'.out _ _ _ (by simp only [y0];rfl) trivial ⟨rfl,HF.out⟩
      ·obtain⟨_,_,_,aP⟩:=dn.eu.any hF;have hq:=aP.2.1.cell;unfold qw at hq;clear aP;have y0:x 88=.pointer (some ⟨C,0,none⟩):=(D_ hd 2 :);have HF:=Z_ hF;clear hd hm hb hF;go_simp;exact hK'.out _ _ _ (by simp only [y0];rfl) trivial ⟨rfl,HF.out⟩
      ·have HF:=Z_ hF;clear hd hm hb hF;go_simp;exact hK'.out _ _ _ (rfl) trivial ⟨rfl,HF.out⟩
      ·have y0:x 90=.pointer (some ⟨C,0,none⟩):=(D_ hd 4 :);have HF:=Z_ hF;clear hd hm hb hF;go_simp;exact hK'.out _ _ _ (by simp only [y0];rfl) trivial ⟨rfl,HF.out⟩
      ·have y0:x 91=.pointer (some ⟨C,0,none⟩):=(D_ hd 5 :);have HF:=Z_ hF;clear hd hm hb hF;go_simp;exact hK'.out _ _ _ (by simp only [y0];rfl) trivial ⟨rfl,HF.out⟩
      ·obtain⟨_,_,_,aP⟩:=dn.eu.any hF;have hq:=aP.2.1.cell;unfold qw at hq;clear aP;have y0:x 92=.pointer (some ⟨C,0,none⟩):=(D_ hd 6 :);have HF:=Z_ hF;clear hd hm hb hF;go_simp;exact hK'.out _ _ _ (by simp only [y0];rfl) trivial ⟨rfl,HF.out⟩
      ·have y0:x 93=.pointer (some ⟨Mo,0,none⟩):=(D_ hd 7 :);have HF:=Z_ hF;clear hd hm hb hF;go_simp;exact hK'.out _ _ _ (by simp only [y0];rfl) trivial ⟨rfl,HF.out⟩
      ·have y0:x 94=.pointer (some ⟨Mo,0,none⟩):=(D_ hd 8 :);have HF:=Z_ hF;clear hd hm hb hF;go_simp;exact hK'.out _ _ _ (by simp only [y0];rfl) trivial ⟨rfl,HF.out⟩
      ·have aP:=dn.eu.B hF (by have:=hb 1 _ (by decide) rfl (by kernel_rfl);omega);have hq:=aP.2.2.1.cell;clear aP;have y0:x 95=.pointer (some ⟨Mo,1,none⟩):=(D_ hd 9 :);have HF:=Z_ hF;clear hd hm hb hF;go_simp;exact hK'.out _ _ _ (by simp only [y0];rfl) trivial ⟨rfl,HF.out⟩
      ·have HF:=Z_ hF;clear hd hm hb hF;go_simp;exact hK'.out _ _ _ (rfl) trivial ⟨rfl,HF.out⟩
      ·have y0:x 97=.pointer (some ⟨C,0,none⟩):=(D_ hd 11 :);have HF:=Z_ hF;clear hd hm hb hF;go_simp;exact hK'.out _ _ _ (by simp only [y0];rfl) trivial ⟨rfl,HF.out⟩
      ·have y0:x 98=.pointer (some ⟨C,0,none⟩):=(D_ hd 12 :);have HF:=Z_ hF;clear hd hm hb hF;go_simp;exact hK'.out _ _ _ (by simp only [y0];rfl) trivial ⟨rfl,HF.out⟩
      ·obtain⟨_,_,_,aP⟩:=dn.eu.any hF;have hq:=aP.2.1.cell;unfold qw at hq;clear aP;have y0:x 99=.pointer (some ⟨C,5,none⟩):=(D_ hd 13 :);have HF:=Z_ hF;clear hd hm hb hF;go_simp;exact hK'.out _ _ _ (by simp only [y0];rfl) trivial ⟨rfl,HF.out⟩
      ·obtain rfl:=kF hm;have y0:x 100=.pointer (some ⟨P,0,none⟩):=(D_ hd 14 :);have aP:=hF.1;have HG:=Z_ (dn.bH (aP.2.2.2.1));have HF:=Z_ hF;clear hd hm hb hF aP;go_simp;exact hK'.out _ _ _ (by simp only [y0];rfl) trivial ((dn.fF chk.iV (fun u' hE=>⟨HF.out.1.1.ext hE,HF.out.1.2.1.ext hE,HF.out.1.2.2.1.ext hE,eG HF.out.1.2.2.2.1 iV hE (fun i e=>e.elim) (fun i e e2=>e2.elim) (fun i e=>by cases e),HF.out.1.2.2.2.2⟩) (fun i e=>(HG.out i e).2) HF.out rfl))
      ·obtain⟨v0,rfl⟩:=lK hm
       have y0:x 96=.slice ra nb rc:=(D_ hd 10 :);have y1:x 101=v0:=((D_ hd 15) 101 (by kernel_rfl) :);have hF2:=hF;obtain⟨aP,hxx,gg,rfl,hgb,hgr⟩:=hF2;obtain⟨us,hu1,ho,hu3⟩:=(aP.2.2.2.1).ex;obtain⟨jc,jd,hz0,hz1,hz2⟩:=bn.aX dn.Hu;have hbz:Bm≤u.heap.size:=by have h1:=yK.out.hu;have h2:=aP.1.size;have h3:=HH.out.2.2.2;have h4:=HH.out.2.2.1.size;omega
       refine wp_append_lies _ _ _ 123 rfl (Bm) 218 jc (.pointer none) 1 8 Tryz.underlying123 jd hz0 hz1 hz2 rfl (by decide) (.slice ra nb rc) bs.length (us.flatMap fun u=>u.cells.toList) y0 ho ⟨gg,0,none⟩ 1 1 [.pointer (some ⟨P,0,none⟩)] y1 rfl ?_ (by intro z_ kW;simp only [List.mem_cons,List.not_mem_nil,or_false] at kW;rcases kW with rfl<;>rfl) (by decide) (by unfold maxLen;have:=HBS.out;omega) (by have:=HBS.out;omega) hbz u.heap.size rfl ?_
       ·intro j q hj;have e:(⟨gg,0,none⟩:Addr).add j=⟨gg,j,none⟩:=(by unfold Addr.add;split<;>simp_all);rw [e,hgb.cell];simpa [Value.cells] using hj
       ·intro g9 c9 w9 iQ iJ jU qF
        exact hK'.out _ _ _ rfl trivial ((dn.eF chk.iV hF hu1 hu3 rfl (fun r sD hG hC ha=>⟨aP.1.trans hC (fun i hi e=>.inr e),aP.2.1.aO hC (fun e=>by have:=KQ.out _ e;have:=yK.out.cB;omega),aP.2.2.1.aO hC (fun e=>by have:=KQ.out _ e;have:=yK.out.mB;omega),hG,fun i e=>by rcases ha i e with h9|h9;exact .inl h9;exact .inr (by have:=aP.1.size;omega)⟩) iQ iJ jU))
      ·have y0:x 89=.pointer (some ⟨Mo,0,none⟩):=(D_ hd 3 :);have HF:=Z_ hF;clear hd hm hb hF;go_simp;exact hK'.out _ _ _ (by simp only [y0];rfl) trivial ⟨rfl,HF.out⟩
      ·have y0:x 103=.pointer (some ⟨Mo,0,none⟩):=(D_ hd 17 :);have HF:=Z_ hF;clear hd hm hb hF;go_simp;exact hK'.out _ _ _ (by simp only [y0];rfl) trivial ⟨rfl,HF.out⟩
      ·obtain⟨v0,v1,rfl⟩:=qX hm
       have y0:x 104=.pointer (some ⟨Mo,1,none⟩):=(D_ hd 18 :);have y1:x 102=v1:=((D_ hd 16) 102 (by kernel_rfl) :);have hF2:=hF;obtain⟨aP,gg,cc,rfl⟩:=hF2;have hq:=aP.2.2.1.cell;have yI:=aP.2.2.1.frozen;have kN:=aP.2.2.1.lt;have HF:=Z_ hF;clear hd hm hb hF aP;go_simp;exact hK'.out _ _ undef (by simp only [y0,y1];rfl) trivial ((dn.fG (z:=undef) HF.out (fun h=>⟨h.1.setCell (p:=⟨Mo,1,none⟩) (fun _=>.inl rfl) _,h.2.1.setOther (p:=⟨Mo,1,none⟩) (by have:=yK.out.cM;exact this) _,h.2.2.1.set 1 _,eG h.2.2.2.1 iV (ak (S:=Mo) (aB.refl _ _) 1 _) (fun i e=>.inl (by have:=yK.out.mB;omega)) (fun i e e2=>by have:=bH h.2.2.2.1 i e;have:=yK.out.mB;omega) (fun i e=>by cases e),h.2.2.2.2⟩)))
     case O8=>
      intro x9 qj w9 hl hF hk9;obtain⟨v0,v1,v2,rfl⟩:=KR hl
      clear hk9 hl;obtain⟨iU,uz,KT,iJ,iQ⟩:=(show MB _ _ _ _ _ _ _ _ _ _ _ _ _ _ _ from hF);have kR:=Z_ (And.intro iU (And.intro uz (And.intro KT (And.intro iJ iQ))));clear iU uz KT iJ iQ hF;go_wp2_with fail
      go_end0
      obtain⟨iU,uz,KT,iJ,iQ⟩:=kR.out;obtain⟨H_,Ia,yL,KP⟩:=HH.out;have hms:=yK.out;refine⟨(yL.weak (S':=BS C Mo (.slice ra nb rc)) fun _ _ e=>.inl e).then (iU.weak fun i _ e=>by rcases e with e|e;exact .inr (.inl e);exact .inr (.inr e)),?_⟩
      rw [←HT4.out];refine⟨rfl,vl8,.int .i64 1,.pointer (some ⟨P,0,none⟩),v1,?_,fun i e=>by rcases iQ i e with h|h;exact .inl h;exact .inr (Nat.le_trans yL.size h)⟩
      have hcs:=O6.out;obtain⟨n9,hn9,hk9⟩:=hcs.k;have h1:=hms.hC;have h2:=hms.hM;have h3:=hms.hK;have h4:=hms.cB;have h5:=hms.mB;have h6:=hms.kB;have h7:=hcs.ext.size;have h8:=yL.size;have h9:=hms.hu;have h10:=hms.ext.size;have h11:=iU.size
      have Yx:q1+fP (.mk 6 t1 m1 l1)=p+fP (.mk 4 t m (ps ++ [.mk 6 t1 m1 l1])):=oK.out;rw [Yx] at uz;have hoW:=KQ.out;exact⟨hcs.ext.trans iU (fun i hi e=>by rcases e with e|e;omega;have:=hoW _ e;omega),uz,KT,hms.d,hms.own,⟨n9,hn9,hk9.aO iU (fun e=>by rcases e with e|e;exact hms.mK e.symm;have:=hoW _ e;omega)⟩,yM iJ,h1,h2,h3,h4,h5,h6,hms.cM,hms.cK,hms.mK,by omega⟩
end chk
end Go.Proofs.YtpcihajmcejliacGreatDoor
namespace Go.Proofs.YtpcihajmcejliacGreatDoor
open Go.RowKit
namespace KU
open bn dn oV
theorem uX (v:Value) (w:World):(Instr.typeAssert (.iface 214 v) 20 214 true).run Tryz.prog w=.ok (.tuple #[v,.bool true]) w:=by kernel_rfl
def oW (R F:Nat) (c p:Int) (w:World) (e:Exit) (a:Act) (w':World):Prop:=e=.normal∧a.defers=[]∧aH w' R #[.pointer none] 119∧aH w' F #[.int .i64 c,.int .i64 p] 27∧aB (fun i=>i=R∨i=F) w w'
def kX (R F B:Nat) (c p:Int) (w0:World) (cs fs:Array Value):List Value→World→Prop
 | [],u=>aH u R cs 119∧aH u F fs 27∧aB (fun i=>i=R∨i=F) w0 u∧aH u B #[.int .i64 c,.int .i64 p] 214
 | [_],u=>aH u R #[.pointer none] 119∧aH u F fs 27∧aB (fun i=>i=R∨i=F) w0 u∧aH u B #[.int .i64 c,.int .i64 p] 214
 | _,u=>aH u R #[.pointer none] 119∧aH u F #[.int .i64 c,.int .i64 p] 27∧aB (fun i=>i=R∨i=F) w0 u∧aH u B #[.int .i64 c,.int .i64 p] 214
theorem kX.b {R F B:Nat} {c p:Int} {w0 u:World} {cs fs:Array Value} {vs:List Value} (h:kX R F B c p w0 cs fs vs u):aH u B #[.int .i64 c,.int .i64 p] 214:=by
 match vs,h with
 | [],h=>exact h.2.2.2
 | [_],h=>exact h.2.2.2
 | _::_::_,h=>exact h.2.2.2
set_option maxRecDepth 100000 in
set_option maxHeartbeats 4000000 in
theorem jl (R F:Nat) (c0 f0 f1:Value) (c p:Int) (w:World) (hR:aH w R #[c0] 119) (hF:aH w F #[f0,f1] 27) (hne:R≠F) :
  CallsD Tryz.prog 107 #[.pointer (some ⟨R,0,none⟩),.pointer (some ⟨F,0,none⟩)] (.panicking (chk.mJ c p)) w fun e u' w'=>
   e=.returned (.tuple #[])∧u'=.panicking [{ v:=.iface 214 (.agg #[.int .i64 c,.int .i64 p]),recovered:=true }]∧aH w' R #[.pointer none] 119∧aH w' F #[.int .i64 c,.int .i64 p] 27∧aB (fun i=>i=R∨i=F) w w':=by
 have hta:=uX;have EW:=hR.lt;have EX:=hF.lt;obtain⟨B,hB⟩:∃ B,w.heap.size=B:=⟨_,rfl⟩;have hB0:=aH.made w #[.int .i64 c,.int .i64 p] 214;rw [hB] at hB0 EW EX;have hR0:=hR.alloc (.cells #[.int .i64 c,.int .i64 p] 214);have kY:=hF.alloc (.cells #[.int .i64 c,.int .i64 p] 214);have oH:=(aB.refl (fun i=>i=R∨i=F) w).alloc (.cells #[.int .i64 c,.int .i64 p] 214);refine callsD_of_wpS Tryz.func107 rfl fun c₀ cs hu=>?_
 unfold chk.mJ at hu;apply wpS_seq
 apply wpS_region
 simp [wpOpsS,go_sem,recoverD,hu,Tryz.ntmps107,Exit.thenS]
 simp only [Array.replicate,List.replicate,List.append_toArray,List.setIfInBounds_toArray,List.set_cons_zero,List.set_cons_succ,List.cons_append,List.nil_append];refine wpS_of_wp (Code.wp_mono (Q:=oW R F c p w) ?_ ?_)
 ·rintro e a w1 ⟨rfl,hd,h1,h2,h3⟩
  exact⟨hd,_,rfl,_,results_none rfl _ _ _,rfl,rfl,h1,h2,h3⟩
 clear hu;have HR0:=Z_ hR0;have pM:=Z_ kY;have HX0:=Z_ oH;have KW:=Z_ hB0;clear hR hF hR0 kY oH hB0;unfold oW;go_upto_region 5 with (fail)
 try rw [hB]
 generalize w.alloc (.cells #[.int .i64 c,.int .i64 p] 214)=u0 at *;refine ah [2,3] (fun i v _=>v=([.pointer (some ⟨B,0,none⟩),.agg #[.int .i64 c,.int .i64 p],undef,undef]:List Value).getD i undef) (kX R F B c p w #[c0] #[f0,f1]) (fun _ _=>True) (frame:=?KX) (fun x=>?uh) bn.mixed (by kernel_rfl) (by kernel_rfl) (fun _ _ _ _ h _=>h) ?h0c ?KY ?yN
 case uh=>
  simp only [chain.aK,chain.fill,chain.bf,chain.aW,jJ,jK,jL,jM,jO,jP,jQ,jR,jS];exact rfl
 case h0c=>exact⟨HR0.out.drew,pM.out.drew,HX0.out.drew,KW.out.drew⟩
 case KY=>
  iterate 4 (refine ai.cons (fun x vs u hF hm hb hd K' hK'=>?_) ?_;rotate_left)
  exact ai.nil
  ·have HF:=Z_ hF;clear hd hm hb hF;go_simp;exact hK'.out _ _ _ (rfl) trivial ⟨rfl,HF.out⟩
  ·have hc:=hF.b.cell;have y0:x 16=.pointer (some ⟨B,0,none⟩):=(D_ hd 0 :);have HF:=Z_ hF;clear hd hm hb hF;go_simp;exact hK'.out _ _ _ (by simp only [y0];rfl) trivial ⟨rfl,HF.out⟩
  ·obtain rfl:=kF hm;obtain⟨g1,g2,g3,g4⟩:=(show _∧_ from hF);have hc:=g1.cell;have hf:=g1.frozen;have hl:=g1.lt;have HG:=Z_ (And.intro g1 (And.intro g2 (And.intro g3 g4)));clear hd hm hb hF g1 g2 g3 g4;go_simp;obtain⟨g1,g2,g3,g4⟩:=HG.out;exact hK'.out _ _ undef rfl trivial ⟨g1.set 0 _,g2.setOther (p:=⟨R,0,none⟩) (by show F≠R;omega) _,g3.setCell (p:=⟨R,0,none⟩) (fun _=>.inl rfl) _,g4.setOther (p:=⟨R,0,none⟩) (by show B≠R;omega) _⟩
  ·have y0:x 17=.agg #[.int .i64 c,.int .i64 p]:=(D_ hd 1 :);obtain⟨v0,rfl⟩:=lK hm
   obtain⟨g1,g2,g3,g4⟩:=(show _∧_ from hF);have hc:=g2.cell;have hf:=g2.frozen;have hl:=g2.lt;have HG:=Z_ (And.intro g1 (And.intro g2 (And.intro g3 g4)));clear hd hm hb hF g1 g2 g3 g4;go_simp;obtain⟨g1,g2,g3,g4⟩:=HG.out;exact hK'.out _ _ undef (by simp only [y0];rfl) trivial ⟨(g1.setOther (p:=⟨F,0,none⟩) hne _).setOther (p:=⟨F,1,none⟩) hne _,(g2.set 0 _).set 1 _,(g3.setCell (p:=⟨F,0,none⟩) (fun _=>.inr rfl) _).setCell (p:=⟨F,1,none⟩) (fun _=>.inr rfl) _,(g4.setOther (p:=⟨F,0,none⟩) (by show B≠F;omega) _).setOther (p:=⟨F,1,none⟩) (by show B≠F;omega) _⟩
 case yN=>
  intro x vs w9 hl hF hk;obtain⟨v0,v1,rfl⟩:=CV hl
  obtain⟨g1,g2,g3,g4⟩:=(show _∧_ from hF);clear hk hl;have HG:=Z_ (And.intro g1 (And.intro g2 g3));clear hF g1 g2 g3 g4;go_wp2_with (fail)
  exact HG.out
theorem sH (R F:Nat) (w:World) :
  CallsD Tryz.prog 107 #[.pointer (some ⟨R,0,none⟩),.pointer (some ⟨F,0,none⟩)] .returning w fun e u' w'=>e=.returned (.tuple #[])∧u'=.returning∧w'=w:=by
 refine callsD_of_wpS Tryz.func107 rfl fun c₀ cs hu=>?_
 apply wpS_seq
 apply wpS_region
 simp [wpOpsS,go_sem,recoverD,hu,Tryz.ntmps107,Exit.thenS]
 simp only [Array.replicate,List.replicate,List.append_toArray,List.setIfInBounds_toArray,List.set_cons_zero,List.set_cons_succ,List.cons_append,List.nil_append];refine wpS_of_wp (Code.wp_mono (Q:=fun e a' w'=>e=.normal∧a'.defers=[]∧w'=w) ?_ ?_)
 ·rintro e a w1 ⟨rfl,hd,rfl⟩
  exact⟨hd,.returning,by cases c₀;simp_all,_,results_none rfl _ _ _,rfl,rfl,rfl⟩
 clear hu;go_wp2_with (fail)
end KU
end Go.Proofs.YtpcihajmcejliacGreatDoor
