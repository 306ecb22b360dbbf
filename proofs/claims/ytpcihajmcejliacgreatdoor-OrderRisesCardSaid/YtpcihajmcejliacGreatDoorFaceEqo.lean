/- The walk of the checker's statements and blocks, joined. The checker between procedures: the row of bodies. The walk of the checker's body: one procedure. The checker's recover. The walks of chapter 4's small functions: what a label is; a text's place in a list; whether two rows, two procedures are one. The walks of slices.Equal, as the faces' comparisons use it: of rows of numbers, of rows of variables. -/
import Derived.Defers
import Derived.Recover
import Derived.Test.YtpcihajmcejliacGreatDoorChkTo
import Derived.Test.YtpcihajmcejliacGreatDoorOfCo
import Derived.Test.YtpcihajmcejliacGreatDoorOrdMo
namespace Go.Proofs.YtpcihajmcejliacGreatDoor
open Go.RowKit
namespace chk
open bu cG
theorem both_any {W:World} {C Mo D K P B:Nat} {E:dI} {cO dw:Value} {dc:Array Value} {pr:aI} {H:Nat→Bool} (hmv:cE W):∀ x,jw x→(t_ x.kd→FH W C Mo D K P B E cO dw dc pr H x)∧(x.kd=6→wI W C Mo D K P B E cO dw dc pr H x):=by
 refine rq fun k t m l ih his=>⟨fun hk=>wO hmv _ his hk fun y hy h6=>(ih y hy (his.kids y hy)).2 h6,fun h6=>tV _ fun y hy=>(ih y hy (his.kids y hy)).1 ?_⟩
 obtain rfl:k=6:=h6;have hf:=his.form;cases hf with
 | block hl=>exact hl y hy
theorem Kz {W:World} {C Mo D K P B:Nat} {E:dI} {cO dw:Value} {dc:Array Value} {pr:aI} {H:Nat→Bool} (hmv:cE W) (x:Nd) (his:jw x) (h6:x.kd=6):wI W C Mo D K P B E cO dw dc pr H x:=(both_any hmv x his).2 h6
end chk
end Go.Proofs.YtpcihajmcejliacGreatDoor
namespace Go.Proofs.YtpcihajmcejliacGreatDoor
open Go.RowKit
namespace chk
open bu cG
def BI (_:aI×Tr) (v:Value) (_:World):Prop:=∃ g,v=.pointer (some ⟨g,0,none⟩)
theorem ja (x:aI×Tr) (u:Value) (w w':World) (_:bV w w') (h:BI x u w):BI x u w':=h
theorem FP (x:aI×Tr) (u:Value) (w w':World) (h:BI x u w):BI x u w':=h
end chk
namespace cG
theorem KA:(Tryz.prog.info? 218).map (fun i=>(i.zero,i.size,i.bytes))=some (some (.pointer none),1,8):=by kernel_rfl
end cG
namespace chk
open bu cG
structure MS (W u:World) (C Mo D K Bm:Nat) (E:dI) (v2 v3 v5:Value) (at_:Int) (cO dw:Value) (dc:Array Value) (bs:List (aI×Tr)):Prop where
 ext:Ext W u
 c:aC u C #[.pointer (some ⟨Mo,0,none⟩),.map (some K),v2,v3,.int .i64 at_,v5,.pointer none] 221
 mo:aC u Mo #[.pointer (some ⟨D,0,none⟩),cO,dw] 125
 d:aC W D dc 128
 own:∃ v0 v1 v2 d3 d4 d5 d6 d7 d8,dc=#[v0,v1,v2,d3,d4,d5,d6,d7,d8]∧fE W E.own (.agg #[v0,v1,v2])
 k:∃ n,n≤E.known.length∧oN.nV W u K n E.known
 row:Grow 1 218 BI Bm u cO bs
 hC:W.heap.size≤C
 hM:W.heap.size≤Mo
 hK:W.heap.size≤K
 cB:C<Bm
 mB:Mo<Bm
 kB:K<Bm
 cM:C≠Mo
 cK:C≠K
 mK:Mo≠K
 hu:Bm≤u.heap.size
theorem MS.extend {W u u':World} {C Mo D K Bm:Nat} {E:dI} {v2 v3 v5:Value} {at_:Int} {cO dw:Value} {dc:Array Value} {bs:List (aI×Tr)} (h:MS W u C Mo D K Bm E v2 v3 v5 at_ cO dw dc bs) (hE:Ext u u'):MS W u' C Mo D K Bm E v2 v3 v5 at_ cO dw dc bs:=by
 obtain⟨n,hn,hk⟩:=h.k;exact⟨h.ext.ext hE,h.c.ext hE,h.mo.ext hE,h.d,h.own,⟨n,hn,hk.aK hE id⟩,h.row.aK ja hE (fun _ e=>e.elim),h.hC,h.hM,h.hK,h.cB,h.mB,h.kB,h.cM,h.cK,h.mK,Nat.le_trans h.hu hE.size⟩
theorem MS.lQ {W u u':World} {C Mo D K Bm:Nat} {E:dI} {v2 v3 v5 v2' ZF ZG:Value} {at_ at':Int} {cO dw:Value} {dc:Array Value} {bs:List (aI×Tr)} (h:MS W u C Mo D K Bm E v2 v3 v5 at_ cO dw dc bs) (hC:aB (fun i=>i=C) u u') (hc:aC u' C #[.pointer (some ⟨Mo,0,none⟩),.map (some K),v2',ZF,.int .i64 at',ZG,.pointer none] 221):MS W u' C Mo D K Bm E v2' ZF ZG at' cO dw dc bs:=by
 obtain⟨n,hn,hk⟩:=h.k;have h1:=h.hC;have h2:=h.cB;have h3:=h.cM;have h4:=h.cK
 exact⟨h.ext.trans hC (fun i hi e=>by omega),hc,h.mo.aK hC (fun e=>h3 e.symm),h.d,h.own,⟨n,hn,hk.aK hC (fun e=>h4 e.symm)⟩,h.row.aK ja hC (fun i e=>by omega),h1,h.hM,h.hK,h2,h.mB,h.kB,h3,h4,h.mK,Nat.le_trans h.hu hC.size⟩
theorem MS.begin {W u:World} {C Mo D K Bm P B:Nat} {E:dI} {at_:Int} {cO dw:Value} {dc pc:Array Value} {bs:List (aI×Tr)} (h:MS W u C Mo D K Bm E (.slice none 0 0) (.int .i64 1) (.pointer (some ⟨P,0,none⟩)) at_ cO dw dc bs) (hP:aC u P pc 297) (hp:Bm≤P) (hB:P<B) (hu:B≤u.heap.size):CS W u C Mo D K P B E (.slice none 0 0) [] 1 at_ cO dw dc pc:=by
 have h1:=h.hC;have h2:=h.cB;have h3:=h.mB;have h4:=h.kB;have h5:=h.hM;have h6:=h.hK
 exact⟨h.ext,h.c,h.mo,h.d,h.own,h.k,hP,Grow.nil _ _ _ _ _,h1,h.hM,h.hK,by omega,by omega,by omega,by omega,hB,h.cM,h.cK,by omega,h.mK,by omega,by omega,hu⟩
end chk
end Go.Proofs.YtpcihajmcejliacGreatDoor
namespace Go.Proofs.YtpcihajmcejliacGreatDoor
open Go.RowKit
namespace chk
open bu cG
def BS (C Mo:Nat) (cO:Value) (i:Nat):Prop:=i=C∨i=Mo∨cO.ownBlock=some i
def KC (W u:World) (C Mo D K Bm:Nat) (E:dI) (at_:Nat) (cO dw:Value) (dc:Array Value) (bs:List (aI×Tr)) (pr:aI) (T:Rz Tr) (e:Ending) (u':World):Prop:=aB (BS C Mo cO) u u'∧match T with
 | .bad c p=>e=.panicked (nG c (p:Nat))
 | .ok t=>e=.returned (.tuple #[])∧∃ v2 v3 v5 Ko,MS W u' C Mo D K Bm E v2 v3 v5 (at_:Nat) Ko dw dc (bs ++ [(pr,t)])∧(∀ i,Ko.ownBlock=some i→cO.ownBlock=some i∨u.heap.size≤i)
theorem Hj {t:ByteArray} {m:Int} {l:List Nd} (h:Form 4 t m l):∃ ps b,l=ps ++ [b]∧(∀ y∈ps,y.kd=5)∧b.kd=6:=by
 cases h with
 | proc ht h0 h1 hp hb=>exact⟨_,_,rfl,hp,hb⟩
set_option maxRecDepth 100000 in
theorem Bo {u:World} {C:Nat} {x0 x1 x2 x3 x5 x6:Value} {at_:Int} (hc:aC u C #[x0,x1,x2,x3,.int .i64 at_,x5,x6] 221) (h0:0≤at_) (h1:at_≤100000) :
  Calls Tryz.prog 108 #[.pointer (some ⟨C,0,none⟩)] u fun e u'=>e=.returned (.int .i64 at_)∧aB (fun i=>i=C) u u'∧aC u' C #[x0,x1,x2,x3,.int .i64 (at_+1),x5,x6] 221:=by
 have HC:=Z_ hc;have q:=hc.cell;have qf:=hc.frozen;have ql:=hc.lt;have hw:IntKind.i64.wrap (at_+1)=at_+1:=wrap_small _ (by omega) (by omega);have hw2:IntKind.i64.wrap (at_+1-1)=at_:=by rw [wrap_small _ (by omega) (by omega)];omega
 have hw3:at_+1-1=at_:=by omega
 clear hc;go_enter Tryz.func108,Tryz.ntmps108
 go_wp2_with fail
 go_ret
 exact⟨by first|rfl|(rw [hw3]),ai (aB.refl _ _) 4 _,HC.out.set 4 (.int .i64 (at_+1))⟩
def BX (W u0 u:World) (C Mo D K P Nb:Nat) (E:dI) (L:List Loc) (q:Int) (cO dw:Value) (dc:Array Value) (pr:aI) (nc qc:Array Value):Prop:=∃ vl pc,CS W u C Mo D K P (P+1) E vl L 1 q cO dw dc pc∧zA pr pc∧aC u Nb nc 24∧aC u (Nb+1) qc 68∧aB (fun i=>i=C) u0 u∧u0.heap.size=Nb∧C<Nb∧Nb+1<P
theorem BX.far {W u:World} {C Mo D K P:Nat} {E:dI} {vl:Value} {L:List Loc} {q:Int} {cO dw:Value} {dc pc:Array Value} {Nb:Nat} (h1:CS W u C Mo D K P (P+1) E vl L 1 q cO dw dc pc) (_h7:C<Nb) (h8:Nb+1<P):∀ i,i≤Nb+1→LS C P vl i→i=C:=fun i hi e=>by
 rcases e with e|e|e
 ·exact e
 ·omega
 ·have:=bn h1.loc i e;omega
theorem BX.call {W u0 u u':World} {C Mo D K P Nb:Nat} {E:dI} {vl AO:Value} {L L':List Loc} {q q':Int} {cO dw:Value} {dc pc pc':Array Value} {pr:aI} {nc qc:Array Value} (h1:CS W u C Mo D K P (P+1) E vl L 1 q cO dw dc pc) (h3:aC u Nb nc 24) (h4:aC u (Nb+1) qc 68) (h5:aB (fun i=>i=C) u0 u) (h6:u0.heap.size=Nb∧C<Nb∧Nb+1<P) (hC:aB (LS C P vl) u u') (hcs:CS W u' C Mo D K P (P+1) E AO L' 1 q' cO dw dc pc') (hpc:zA pr pc'):BX W u0 u' C Mo D K P Nb E L' q' cO dw dc pr nc qc:=by
 have hf:=BX.far h1 h6.2.1 h6.2.2;have h7:=h6.1;have h8:=h6.2.1
 exact⟨AO,pc',hcs,hpc,h3.aK hC (fun e=>by have:=hf _ (by omega) e;omega),h4.aK hC (fun e=>by have:=hf _ (by omega) e;omega),h5.trans hC (fun i hi e=>hf i (by omega) e),h6⟩
theorem BX.Jv {W u0 u:World} {C Mo D K P Nb:Nat} {E:dI} {L:List Loc} {q:Int} {cO dw:Value} {dc:Array Value} {pr:aI} {nc qc:Array Value} (h:BX W u0 u C Mo D K P Nb E L q cO dw dc pr nc qc) (g:Nat):BX W u0 (u.setCell ⟨P,6,none⟩ (.pointer (some ⟨g,0,none⟩))) C Mo D K P Nb E L q cO dw dc pr nc qc:=by
 obtain⟨vl,pc,h1,⟨p1,p2,p3,b,mo,rfl,hm0,hm1⟩,h3,h4,h5,h6⟩:=h;have hC:=ai (S:=P) (aB.refl _ u) 6 (.pointer (some ⟨g,0,none⟩));exact BX.call h1 h3 h4 h5 h6 (hC.weak fun _ _ e=>.inr (.inl e)) (h1.JK (hC.weak fun _ _ e=>.inr (.inl e)) (h1.c.aK hC h1.cP) (h1.p.set 6 _) (h1.loc.aK gz hC fun i e=>by omega)) ⟨p1,p2,p3,_,mo,rfl,hm0,hm1⟩
theorem BX.p {W u0 u:World} {C Mo D K P Nb:Nat} {E:dI} {L:List Loc} {q:Int} {cO dw:Value} {dc:Array Value} {pr:aI} {nc qc:Array Value} (h:BX W u0 u C Mo D K P Nb E L q cO dw dc pr nc qc):∃ p1 p2 p3 b mo,aC u P #[.string pr.name,p1,p2,p3,.bool pr.gives,.int .i64 pr.given,b,.int .i64 mo] 297:=by
 obtain⟨vl,pc,h1,⟨p1,p2,p3,b,mo,rfl,-⟩,-⟩:=h;exact⟨p1,p2,p3,b,mo,h1.p⟩
def MB (u0 u:World) (C Mo D K P Bm:Nat) (vl:Value) (at_:Int) (cO dw:Value) (rN r:Value) (lq:List (aI×Tr)):Prop:=
 aB (fun i=>i=Mo∨cO.ownBlock=some i) u0 u∧aC u C (qK Mo K vl 1 at_ P) 221∧aC u Mo #[.pointer (some ⟨D,0,none⟩),rN,dw] 125∧jk (fun _=>false) 1 218 BI Bm u r lq∧(∀ i,r.ownBlock=some i→cO.ownBlock=some i∨u0.heap.size≤i)
def Sv (l:List Nd):Bool:=match l.getLast? with
 | some s=>decide (s.kd=14)
 | none=>false
theorem Ov (E:dI) (pr:aI) (x:Nd) (at_:Nat):uK E pr x at_=(zC E pr pr.writes true (sD x.kids.dropLast) 1 (x.kids.getLastD kH) (at_+1+x.kids.dropLast.length)).bind fun b=>if (pr.gives && !(Sv (x.kids.getLastD kH).kids))=true then .bad 2 at_ else .ok b:=rfl
def Hl (pre post:World→Prop) (RY:Rz Tr):List Value→World→Prop
 | [],u=>pre u
 | v::_,u=>∃ t g,RY=.ok t∧v=.pointer (some ⟨g,0,none⟩)∧post u
theorem Hl.any {pre post:World→Prop} {RY:Rz Tr} {vs:List Value} {u:World} {Q:Prop} (h:Hl pre post RY vs u) (h1:pre u→Q) (h2:post u→Q):Q:=by
 match vs,h with
 | [],h=>exact h1 h
 | _::_,⟨_,_,_,_,h⟩=>exact h2 h
theorem BX.ptr {W u0 u:World} {C Mo D K P Nb:Nat} {E:dI} {L:List Loc} {q:Int} {cO dw:Value} {dc:Array Value} {pr:aI} {nc qc:Array Value} (h:BX W u0 u C Mo D K P Nb E L q cO dw dc pr nc qc):u.cell? ⟨C,5,none⟩=some (.pointer (some ⟨P,0,none⟩)):=by
 obtain⟨vl,pc,h1,-⟩:=h;exact(h1.c.cell 5).trans rfl
theorem BX.qb {W u0 u:World} {C Mo D K P Nb:Nat} {E:dI} {L:List Loc} {q:Int} {cO dw:Value} {dc:Array Value} {pr:aI} {nc qc:Array Value} (h:BX W u0 u C Mo D K P Nb E L q cO dw dc pr nc qc):∀ o9,u.cell? ⟨Nb+1,o9,none⟩=qc[o9]?:=by
 obtain⟨vl,pc,h1,h2,h3,h4,-⟩:=h;exact h4.cell
set_option maxRecDepth 100000 in
set_option maxHeartbeats 32000000 in
theorem J_ {W ua:World} {C Mo D K Bm:Nat} {E:dI} {v2 v3 v5:Value} {cO dw:Value} {dc:Array Value} {bs:List (aI×Tr)} {H:Nat→Bool} {p:Nat} (hmv:cE W) (hms:MS W ua C Mo D K Bm E v2 v3 v5 (p:Nat) cO dw dc bs) (x:Nd) (his:jw x) (hk:x.kd=4) (v:Value) (hnd:fN (hide H W) x v) (hsz:p+fL x≤1000) (hpl:x.kids.dropLast.length≤5) (pr:aI) (pb gv:Bool) (hgv:pr.gives=gv) (pa:Option Addr) (tK:Nat) (hbs:bs.length≤1000) :
  Calls Tryz.prog 110 #[.pointer (some ⟨C,0,none⟩),v,.agg #[.string pr.name,.bool pb,.slice pa pr.params.length tK,.int .i64 pr.writes,.bool gv,.int .i64 pr.given]] ua (KC W ua C Mo D K Bm E (p+fL x) cO dw dc bs pr (uK E pr x p)):=by
 obtain⟨k,t,m,l⟩:=x;obtain rfl:k=4:=hk;obtain⟨ps,bb,rfl,hps,hb6⟩:=Hj his.form;rw [dL] at hnd;obtain⟨a,cc,rfl,hl1,hl2,hl3,hl4⟩:=hnd;obtain⟨T,hT⟩:∃ T,uK E pr (.mk 4 t m (ps ++ [bb])) p=T:=⟨_,rfl⟩;rw [hT];have HT:=Z_ hT;have UD:=Z_ hgv;have Zq:=Z_ hps;have Sz:=Z_ hb6;have HIS:=Z_ his.kids;obtain⟨n,hn⟩:∃ n,ps.length=n:=⟨_,rfl⟩;obtain⟨N,hN⟩:∃ N,(ps ++ [bb]).length=N:=⟨_,rfl⟩;have hNn:N=n+1:=by rw [←hN,←hn];simp
 have hn5:n≤5:=by have h:(ps ++ [bb]).dropLast.length≤5:=hpl;rw [←hn];simpa using h
 subst hNn;rw [hN] at hl1 ⊢;have Fv:=Z_ hn;have HI:=Z_ (fun (ua:World) (hE:Ext W ua)=>hl4.keeps (aH hE fun i _ e=>e.elim) fun b o y=>g_ (aH hE fun i _ e=>e.elim) b o y);have hE0:=((aB.refl (fun _=>False) ua).alloc (.cells #[.int .i64 4,.string t,.int .i64 m,.slice a (n+1) cc] 24)).alloc (.cells #[.string pr.name,.bool pb,.slice pa pr.params.length tK,.int .i64 pr.writes,.bool gv,.int .i64 pr.given] 68);have HM:=Z_ (hms.extend hE0);have zT:=Z_ hms;have HBS:=Z_ hbs;have HE:=Z_ hE0;have HB:=Z_ ((aC.made ua #[.int .i64 4,.string t,.int .i64 m,.slice a (n+1) cc] 24).alloc (.cells #[.string pr.name,.bool pb,.slice pa pr.params.length tK,.int .i64 pr.writes,.bool gv,.int .i64 pr.given] 68));have HQ:=Z_ (aC.made (ua.alloc (.cells #[.int .i64 4,.string t,.int .i64 m,.slice a (n+1) cc] 24)) #[.string pr.name,.bool pb,.slice pa pr.params.length tK,.int .i64 pr.writes,.bool gv,.int .i64 pr.given] 68)
 obtain⟨Nb,hNb⟩:∃ Nb,ua.heap.size=Nb:=⟨_,rfl⟩;have hQb:(ua.alloc (.cells #[.int .i64 4,.string t,.int .i64 m,.slice a (n+1) cc] 24)).heap.size=Nb+1:=by rw [←hNb];exact Array.size_push ..
 rw [hNb] at HB;rw [hQb] at HQ;have DW:=Z_ hNb;have UN:=Z_ (show Bm≤Nb by rw [←hNb];exact hms.hu);have mM:=Z_ hsz;have hp:p≤1000:=by omega
 clear hT hps hb6 his hn hN hpl hl4 hms hE0 hsz hgv;go_enter Tryz.func110,Tryz.ntmps110
 go_upto_region 1 with (fail)
 try rw [hQb]
 try rw [hNb]
 clear hQb hNb;generalize (ua.alloc (.cells #[.int .i64 4,.string t,.int .i64 m,.slice a (n+1) cc] 24)).alloc (.cells #[.string pr.name,.bool pb,.slice pa pr.params.length tK,.int .i64 pr.writes,.bool gv,.int .i64 pr.given] 68)=u1 at *;go_wp2_with fail
 refine(Bo HM.out.c (by omega) (by omega)).mono ?_
 rintro e w2 ⟨rfl,hC2,hB2⟩;have FQ:=Z_ (HM.out.lQ hC2 hB2);have HB2:=Z_ (HB.out.aK hC2 (by have:=HM.out.cB;have:=UN.out;omega));have pI:=Z_ (HQ.out.aK hC2 (by have:=HM.out.cB;have:=UN.out;omega));have lG:=Z_ ((HE.out.weak (S':=fun i=>i=C) fun _ _ e=>e.elim).then hC2);clear hC2 hB2 HM HB HQ HE;have hqc:=pI.out.cell;have hcc:=FQ.out.c.cell;have hcf:=FQ.out.c.frozen;have hcl:=FQ.out.c.lt;go_upto_region 4 with (fail)
 obtain⟨P,hP⟩:∃ P,w2.heap.size=P:=⟨_,rfl⟩;obtain⟨w3,hw3⟩:∃ w3,((w2.setCell ⟨C,5,none⟩ (.pointer (some ⟨P,0,none⟩))).setCell ⟨C,2,none⟩ (.slice none 0 0)).setCell ⟨C,3,none⟩ (.int .i64 1)=w3:=⟨_,rfl⟩;have nU:=ai (ai (ai (S:=C) (aB.refl _ w2) 5 (.pointer (some ⟨P,0,none⟩))) 2 (.slice none 0 0)) 3 (.int .i64 1);have hB3:=((FQ.out.c.set 5 (.pointer (some ⟨P,0,none⟩))).set 2 (.slice none 0 0)).set 3 (.int .i64 1);rw [hw3] at nU hB3;have HM3:=Z_ ((FQ.out.lQ nU hB3).extend ((aB.refl (fun _=>False) w3).alloc (.cells #[.string pr.name,.bool pb,.slice pa pr.params.length tK,.int .i64 pr.writes,.bool gv,.int .i64 pr.given,.pointer none,.int .i64 0] 297)));have Jc:w3.heap.size=P:=by rw [←hw3,←hP];simp
 rw [hP,hw3];have hHP:=aC.made w3 #[.string pr.name,.bool pb,.slice pa pr.params.length tK,.int .i64 pr.writes,.bool gv,.int .i64 pr.given,.pointer none,.int .i64 0] 297;rw [Jc] at hHP;have Og:=Z_ hHP;have HB4:=Z_ ((HB2.out.aK nU (by have:=FQ.out.cB;have:=UN.out;omega)).alloc (.cells #[.string pr.name,.bool pb,.slice pa pr.params.length tK,.int .i64 pr.writes,.bool gv,.int .i64 pr.given,.pointer none,.int .i64 0] 297));have UO:=Z_ ((pI.out.aK nU (by have:=FQ.out.cB;have:=UN.out;omega)).alloc (.cells #[.string pr.name,.bool pb,.slice pa pr.params.length tK,.int .i64 pr.writes,.bool gv,.int .i64 pr.given,.pointer none,.int .i64 0] 297));have WL:=Z_ ((lG.out.then nU).alloc (.cells #[.string pr.name,.bool pb,.slice pa pr.params.length tK,.int .i64 pr.writes,.bool gv,.int .i64 pr.given,.pointer none,.int .i64 0] 297))
 have UI:Nb+1<P:=by rw [←hP];exact pI.out.lt
 clear hw3 nU hB3 hHP Jc hP HB2 pI FQ lG hqc hcc hcf hcl;generalize w3.alloc (.cells #[.string pr.name,.bool pb,.slice pa pr.params.length tK,.int .i64 pr.writes,.bool gv,.int .i64 pr.given,.pointer none,.int .i64 0] 297)=u4 at *;have UQ:=Z_ (HM3.out.begin (B:=P+1) Og.out (by have:=UN.out;omega) (by omega) Og.out.lt);have UR:=Z_ (show BX W ua u4 C Mo D K P Nb E [] ((p:Nat)+1) cO dw dc pr #[.int .i64 4,.string t,.int .i64 m,.slice a (n+1) cc] #[.string pr.name,.bool pb,.slice pa pr.params.length tK,.int .i64 pr.writes,.bool gv,.int .i64 pr.given] from⟨_,_,UQ.out,⟨_,_,_,_,_,by rw [UD.out],Int.le_refl _,by decide⟩,HB4.out,UO.out,WL.out,DW.out,by have:=HM3.out.cB;have:=UN.out;omega,UI⟩);clear UQ Og HB4 UO WL HM3;obtain⟨-,-,-,-,hbb,-,-⟩:=UR.out;have hbc:=hbb.cell;clear hbb
 have hwn:IntKind.i64.wrap ((n:Int)+1-1)=(n:Int):=by rw [wrap_small _ (by omega) (by omega)];omega
 have hni:(n:Int)≤(cc:Int):=by omega
 have hn0:(0:Int)≤(n:Int):=by omega
 go_wp2_with fail
 clear hbc hwn hni hn0;go_loopw [35] (fun i wr=>∃ j:Nat,j≤n∧i=.int .i64 (j:Nat)∧Hid (BX W ua wr C Mo D K P Nb E (sD (ps.take j)) ((p:Nat)+1+(j:Int)) cO dw dc pr #[.int .i64 4,.string t,.int .i64 m,.slice a (n+1) cc] #[.string pr.name,.bool pb,.slice pa pr.params.length tK,.int .i64 pr.writes,.bool gv,.int .i64 pr.given])) (fun i _=>n-(intOf i).toNat)
 case atStart=>exact⟨0,Nat.zero_le _,rfl,by rw [List.take_zero];exact UR⟩
 clear UR
 case round=>
  obtain⟨j,hj,rfl,HX⟩:=hrel;by_cases hlt:j<n
  ·have hji:(j:Int)<(n:Int):=by omega
   have hjd:decide ((j:Int)<(n:Int))=true:=by simpa using hji
   have Ja:j<ps.length:=by rw [Fv.out];exact hlt
   have hjl:j<(ps ++ [bb]).length:=by rw [List.length_append,Fv.out];simp;omega
   obtain⟨b,o,rfl,hb,uv,hu,hus,hcl⟩:=HI.out W (aB.refl _ _) j hjl;rw [bT] at hb;have hy5:=Zq.out _ (List.getElem_mem Ja);have hyi:=HIS.out _ (List.getElem_mem hjl);have hye:(ps ++ [bb])[j]=ps[j]:=List.getElem_append_left Ja;have sF:=Z_ (show sD (ps.take (j+1))=sD (ps.take j) ++ [⟨ps[j].tx,ps[j].nm,1⟩] by unfold sD;rw [List.take_succ_eq_append_getElem Ja,List.map_append];rfl);rw [hye] at hu hyi;generalize ps[j]=y at hu hy5 hyi sF;obtain⟨k1,t1,m1,l1⟩:=y;obtain rfl:k1=5:=hy5;rw [dL] at hu;obtain⟨a1,c1,rfl,-,-,hts,-⟩:=hu;have Qc:=Z_ hts;have Dy:=Z_ HX.out;obtain⟨FM,I7,rY,Bl,Ho,KD,KE,Hq⟩:=Dy.out;have hE:=rY.ext;have q0:wr.cell? ⟨b,o+j*4,none⟩=some (.int .i64 5):=(hE.cell (p:=⟨b,o+j*4,none⟩) hb id).trans ((ah _ W).2 _ _ ((hcl 0 (by decide)).trans rfl))
   have q1:wr.cell? ⟨b,o+j*4+1,none⟩=some (.string t1):=(hE.cell (p:=⟨b,o+j*4+1,none⟩) hb id).trans ((ah _ W).2 _ _ ((hcl 1 (by decide)).trans rfl));have q2:wr.cell? ⟨b,o+j*4+2,none⟩=some (.int .i64 m1):=(hE.cell (p:=⟨b,o+j*4+2,none⟩) hb id).trans ((ah _ W).2 _ _ ((hcl 2 (by decide)).trans rfl));have q3:wr.cell? ⟨b,o+j*4+3,none⟩=some (.slice a1 l1.length c1):=(hE.cell (p:=⟨b,o+j*4+3,none⟩) hb id).trans ((ah _ W).2 _ _ ((hcl 3 (by decide)).trans rfl));have HK:=Z_ (aC.made wr #[.int .i64 5,.string t1,.int .i64 m1,.slice a1 l1.length c1] 24);obtain⟨Kb,hKb⟩:∃ Kb,wr.heap.size=Kb:=⟨_,rfl⟩;rw [hKb] at HK;have hPK:P+1≤Kb:=by rw [←hKb];exact rY.hu
   have KF:=Z_ (rY.extend ((aB.refl (fun _=>False) wr).alloc (.cells #[.int .i64 5,.string t1,.int .i64 m1,.slice a1 l1.length c1] 24)));have M_:=Z_ (Ho.alloc (.cells #[.int .i64 5,.string t1,.int .i64 m1,.slice a1 l1.length c1] 24));have PN:=Z_ (KD.alloc (.cells #[.int .i64 5,.string t1,.int .i64 m1,.slice a1 l1.length c1] 24));have Js:=Z_ (KE.alloc (.cells #[.int .i64 5,.string t1,.int .i64 m1,.slice a1 l1.length c1] 24));have HZ:=Z_ Hq;have SA:=Z_ Bl;have hOW:∀ i,FM.ownBlock=some i→i<Kb:=fun i e=>by rw [←hKb];exact(bn rY.loc i e).2
   have HOW:=Z_ hOW;clear rY Ho KD KE Hq Bl hOW hE hts hcl hus hyi hye HX;go_upto_region 8 with (fail)
   try rw [hKb]
   generalize wr.alloc (.cells #[.int .i64 5,.string t1,.int .i64 m1,.slice a1 l1.length c1] 24)=u5 at *;clear q0 q1 q2 q3 hKb;go_wp2_with fail
   refine(next_any KF.out.c (by omega) (by omega)).mono ?_
   rintro e w2 ⟨rfl,hC2,hB2⟩;have WM:=Z_ (KF.out.lQ hC2 hB2);have Sz:=Z_ (M_.out.aK hC2 (by have:=HZ.out;omega));have HQ6:=Z_ (PN.out.aK hC2 (by have:=HZ.out;omega));have QL:=Z_ (Js.out.then hC2);have Wq:=Z_ (HK.out.aK hC2 (by have:=HZ.out;omega));clear hC2 hB2 KF M_ PN Js HK;have hkc:=Wq.out.cell;go_wp2_with fail
   have WN:(sD (ps.take j)).length≤100:=by simp [sD];omega
   refine(Bg WM.out SA.out WN t1 Qc.out m1).mono ?_
   rintro e w3 ⟨vl7,pc7,rfl,Rq,WO,WQ,-⟩;have AA:=Z_ (BX.call WM.out Sz.out HQ6.out QL.out HZ.out Rq WO WQ);clear Rq WO WQ WN;go_wp2_with fail
   go_roundw
   case rel=>exact⟨j+1,by omega,by go_num,by rw [sF.out];have:=AA;rw [show ((p:Nat):Int)+1+((j+1:Nat):Int)=(p:Int)+1+(j:Int)+1 by omega];exact this⟩
   case measure=>simp [intOf];omega
  ·obtain rfl:j=n:=by omega
   have hjd:decide ((j:Int)<(j:Int))=false:=by simp
   have hjl:j<(ps ++ [bb]).length:=by rw [List.length_append,Fv.out];simp
   obtain⟨b,o,rfl,hb,uv,hu,hus,hcl⟩:=HI.out W (aB.refl _ _) j hjl;rw [bT] at hb;have hyi:=HIS.out _ (List.getElem_mem hjl);have hye:(ps ++ [bb])[j]=bb:=by have h:=Fv.out;subst h;simp
   rw [hye] at hu hyi;obtain⟨q1,hq1⟩:∃ q1:Nat,p+1+j=q1:=⟨_,rfl⟩;have kO:=Z_ (show BX W ua wr C Mo D K P Nb E (sD ps) ((q1:Nat):Int) cO dw dc pr #[.int .i64 4,.string t,.int .i64 m,.slice (some ⟨b,o,none⟩) (j+1) cc] #[.string pr.name,.bool pb,.slice pa pr.params.length tK,.int .i64 pr.writes,.bool gv,.int .i64 pr.given] from by have h:=HX.out;rw [List.take_of_length_le (by rw [Fv.out];exact Nat.le_refl _),show ((p:Nat):Int)+1+(j:Int)=((q1:Nat):Int) by omega] at h;exact h)
   have hq2:q1+fL bb=p+fL (.mk 4 t m (ps ++ [bb])):=by
    have h1:∀ l:List Nd,(∀ y∈l,y.kd=5)→(∀ y∈l,jw y)→kV (l ++ [bb])=l.length+fL bb:=fun l=>by
     induction l with
     | nil=>intro _ _;simp [kV]
     | cons z r ih=>
      intro h5 hi;obtain⟨k9,t9,m9,l9⟩:=z;obtain rfl:k9=5:=h5 _ (List.mem_cons_self ..);have hf:=(hi _ (List.mem_cons_self ..)).form;rw [List.cons_append];simp only [kV,List.length_cons];rw [ih (fun y hy=>h5 y (List.mem_cons_of_mem _ hy)) (fun y hy=>hi y (List.mem_cons_of_mem _ hy))];cases hf
      simp only [fL,kV];omega
    have h2:=h1 ps Zq.out (fun y hy=>HIS.out y (List.mem_append_left _ hy));simp only [fL];rw [h2,Fv.out];omega
   have pI:=Z_ hq2;rw [←hq2] at mM;obtain⟨RY,QZ⟩:∃ RY,zC E pr pr.writes true (sD ps) 1 bb q1=RY:=⟨_,rfl⟩;have hT2:=HT.out;rw [Ov] at hT2;simp only [Nd.kids,List.dropLast_concat,List.getLastD_concat,Fv.out,hq1,QZ] at hT2;have HT2:=Z_ hT2;have Uy:=Z_ QZ;have hb6:=Sz.out;obtain⟨k1,t1,m1,l1⟩:=bb;obtain rfl:k1=6:=hb6;have HBI:=Z_ hyi;have HU:=Z_ hu;rw [dL] at hu;obtain⟨a1,c1,rfl,hk1,hk2,-,hk4⟩:=hu;obtain⟨N1,hN1⟩:∃ N1,l1.length=N1:=⟨_,rfl⟩;rw [hN1] at hk1 hcl HU;have Oh:=Z_ hN1;have HI1:=Z_ (fun (ua:World) (hE:Ext W ua)=>hk4.keeps (aH hE fun i _ e=>e.elim) fun b o y=>g_ (aH hE fun i _ e=>e.elim) b o y);obtain⟨FM,I7,rY,Bl,Ho,KD,KE,Hq⟩:=kO.out;have hE:=rY.ext;have q0:wr.cell? ⟨b,o+j*4,none⟩=some (.int .i64 6):=(hE.cell (p:=⟨b,o+j*4,none⟩) hb id).trans ((ah _ W).2 _ _ ((hcl 0 (by decide)).trans rfl))
   have q01:wr.cell? ⟨b,o+j*4+1,none⟩=some (.string t1):=(hE.cell (p:=⟨b,o+j*4+1,none⟩) hb id).trans ((ah _ W).2 _ _ ((hcl 1 (by decide)).trans rfl));have q02:wr.cell? ⟨b,o+j*4+2,none⟩=some (.int .i64 m1):=(hE.cell (p:=⟨b,o+j*4+2,none⟩) hb id).trans ((ah _ W).2 _ _ ((hcl 2 (by decide)).trans rfl));have q03:wr.cell? ⟨b,o+j*4+3,none⟩=some (.slice a1 N1 c1):=(hE.cell (p:=⟨b,o+j*4+3,none⟩) hb id).trans ((ah _ W).2 _ _ ((hcl 3 (by decide)).trans rfl));obtain⟨Kb,hKb⟩:∃ Kb,wr.heap.size=Kb:=⟨_,rfl⟩;have HK:=Z_ (show aC (wr.alloc (.cells #[.int .i64 6,.string t1,.int .i64 m1,.slice a1 N1 c1] 24)) Kb #[.int .i64 6,.string t1,.int .i64 m1,.slice a1 N1 c1] 24 by rw [←hKb];exact aC.made wr _ _);have hPK:P+1≤Kb:=by rw [←hKb];exact rY.hu
   have KF:=Z_ (rY.extend ((aB.refl (fun _=>False) wr).alloc (.cells #[.int .i64 6,.string t1,.int .i64 m1,.slice a1 N1 c1] 24)));have M_:=Z_ (Ho.alloc (.cells #[.int .i64 6,.string t1,.int .i64 m1,.slice a1 N1 c1] 24));have PN:=Z_ (KD.alloc (.cells #[.int .i64 6,.string t1,.int .i64 m1,.slice a1 N1 c1] 24));have Js:=Z_ (KE.alloc (.cells #[.int .i64 6,.string t1,.int .i64 m1,.slice a1 N1 c1] 24));have HZ:=Z_ Hq;have SA:=Z_ Bl;have HOW:=Z_ (show ∀ i,FM.ownBlock=some i→i<Kb from fun i e=>by rw [←hKb];exact(bn rY.loc i e).2);have hji:(j:Int)<(j:Int)+1:=by omega
   have hbc:=Ho.cell;clear rY Bl Ho KD KE Hq hE hcl hus hyi hye HX kO hT2 QZ hk4 hN1 hq1 hq2;go_upto_region 12 with (fail)
   try rw [hKb]
   generalize wr.alloc (.cells #[.int .i64 6,.string t1,.int .i64 m1,.slice a1 N1 c1] 24)=u5 at *;clear q0 q01 q02 q03 hKb hbc;refine aj [8,11] (fun i v _=>v=([.pointer (some ⟨C,0,none⟩),.pointer (some ⟨C,0,none⟩),.pointer (some ⟨C,5,none⟩),.pointer (some ⟨P,0,none⟩),.pointer (some ⟨C,0,none⟩),.agg #[.int .i64 6,.string t1,.int .i64 m1,.slice a1 N1 c1],.pointer (some ⟨Nb+1,3,none⟩),.int .i64 pr.writes,undef,.pointer (some ⟨P,0,none⟩),.pointer (some ⟨P,6,none⟩),undef]:List Value).getD i undef) (Hl (fun u9=>CS W u9 C Mo D K P (P+1) E FM (sD ps) 1 ((q1:Nat):Int) cO dw dc I7∧aC u9 Nb #[.int .i64 4,.string t,.int .i64 m,.slice (some ⟨b,o,none⟩) (j+1) cc] 24∧aC u9 (Nb+1) #[.string pr.name,.bool pb,.slice pa pr.params.length tK,.int .i64 pr.writes,.bool gv,.int .i64 pr.given] 68∧aB (fun i=>i=C) ua u9∧aC u9 Kb #[.int .i64 6,.string t1,.int .i64 m1,.slice a1 N1 c1] 24) (fun u9=>BX W ua u9 C Mo D K P Nb E (sD ps) ((q1+fL (.mk 6 t1 m1 l1):Nat):Int) cO dw dc pr #[.int .i64 4,.string t,.int .i64 m,.slice (some ⟨b,o,none⟩) (j+1) cc] #[.string pr.name,.bool pb,.slice pa pr.params.length tK,.int .i64 pr.writes,.bool gv,.int .i64 pr.given]∧aC u9 Kb #[.int .i64 6,.string t1,.int .i64 m1,.slice a1 N1 c1] 24) RY) (fun _ _=>True) (frame:=?Es) (fun x=>?rD) bu.mixed (by kernel_rfl) (by kernel_rfl) (fun _ _ _ _ h _=>h) ?Et ?Eu ?rE
   case rD=>
    simp only [chain.aN,chain.fill,chain.bf,chain.aY,jW,jX,jY,jZ,kz,kC,kD,kE,kF];exact rfl
   case Et=>exact⟨KF.out.extend (aB.refl _ _).drew,M_.out.drew,PN.out.drew,Js.out.drew,HK.out.drew⟩
   case Eu=>
    iterate 12 (refine ak.cons (fun x vs u hF hm hb hd K' hK'=>?_) ?_;rotate_left)
    exact ak.nil
    ·have HF:=Z_ hF;clear hd hm hb hF;go_simp;exact hK'.out _ _ _ (rfl) trivial ⟨rfl,HF.out⟩
    ·have y0:x 53=.pointer (some ⟨C,0,none⟩):=(D_ hd 0 :);have HF:=Z_ hF;clear hd hm hb hF;go_simp;exact hK'.out _ _ _ (by simp only [y0];rfl) trivial ⟨rfl,HF.out⟩
    ·have y0:x 54=.pointer (some ⟨C,0,none⟩):=(D_ hd 1 :);have HF:=Z_ hF;clear hd hm hb hF;go_simp;exact hK'.out _ _ _ (by simp only [y0];rfl) trivial ⟨rfl,HF.out⟩
    ·have hq:=Hl.any hF (Q:=u.cell? ⟨C,5,none⟩=some (.pointer (some ⟨P,0,none⟩))) (fun h=>(h.1.c.cell 5).trans rfl) (fun h=>h.1.ptr);have y0:x 55=.pointer (some ⟨C,5,none⟩):=(D_ hd 2 :);have HF:=Z_ hF;clear hd hm hb hF;go_simp;exact hK'.out _ _ _ (by simp only [y0];rfl) trivial ⟨rfl,HF.out⟩
    ·have HF:=Z_ hF;clear hd hm hb hF;go_simp;exact hK'.out _ _ _ (rfl) trivial ⟨rfl,HF.out⟩
    ·have hq:=Hl.any hF (Q:=∀ o9,u.cell? ⟨Kb,o9,none⟩=#[.int .i64 6,.string t1,.int .i64 m1,.slice a1 N1 c1][o9]?) (fun h=>h.2.2.2.2.cell) (fun h=>h.2.cell);have HF:=Z_ hF;clear hd hm hb hF;go_simp;exact hK'.out _ _ _ (rfl) trivial ⟨rfl,HF.out⟩
    ·have HF:=Z_ hF;clear hd hm hb hF;go_simp;exact hK'.out _ _ _ (rfl) trivial ⟨rfl,HF.out⟩
    ·have hq:=Hl.any hF (Q:=∀ o9,u.cell? ⟨Nb+1,o9,none⟩=#[.string pr.name,.bool pb,.slice pa pr.params.length tK,.int .i64 pr.writes,.bool gv,.int .i64 pr.given][o9]?) (fun h=>h.2.2.1.cell) (fun h=>h.1.qb);have y0:x 59=.pointer (some ⟨Nb+1,3,none⟩):=(D_ hd 6 :);have HF:=Z_ hF;clear hd hm hb hF;go_simp;exact hK'.out _ _ _ (by simp only [y0];rfl) trivial ⟨rfl,HF.out⟩
    ·obtain rfl:=kS hm;have y0:x 57=.pointer (some ⟨C,0,none⟩):=(D_ hd 4 :);have y1:x 58=.agg #[.int .i64 6,.string t1,.int .i64 m1,.slice a1 N1 c1]:=(D_ hd 5 :);have y2:x 60=.int .i64 pr.writes:=(D_ hd 7 :);have hF1:=(show _∧_ from hF);have hsb:=mM.out;have hnp:=Fv.out;have kO:=Z_ (Kz hmv _ HBI.out rfl _ true pr.writes u q1 FM (sD ps) 1 I7 hF1.1 SA.out HU.out (by omega) (by simp only [sD,List.length_map];omega) (by decide) (by omega));have HF:=Z_ hF1;clear hd hm hb hF hF1 hsb hnp;go_simp;refine kO.out.mono ?_
     rintro e u2 ⟨iV,jJ⟩;obtain⟨KG,KH,KI,zU,ad3⟩:=HF.out;have hz:=HZ.out;rw [Uy.out] at jJ;cases RY with
     | bad c9 p9=>
      obtain rfl:e=_:=jJ;have xZ:=(zU.weak (S':=BS C Mo cO) fun _ _ e=>.inl e).trans iV (fun i hi e=>.inl (BX.far KG hz.2.1 hz.2.2 i (by omega) e));go_wp2_with fail
      exact⟨rfl,xZ,by rw [←HT2.out];rfl⟩
     | ok t6=>
      obtain⟨g6,pq,pz,rfl,PU,D5,D6,u_,GI,GK⟩:=jJ;have ad4:=BX.call KG KH KI zU hz iV D5 D6;have zE:=ad3.aK iV (fun e=>by
      rcases e with e|e|e
      ·omega
      ·omega
      ·have:=HOW.out _ e;omega)
      exact hK'.out _ _ _ (by simp only [y0,y1,y2];rfl) trivial ⟨t6,g6,rfl,rfl,ad4,zE⟩
    ·have y0:x 56=.pointer (some ⟨P,0,none⟩):=(D_ hd 3 :);have HF:=Z_ hF;clear hd hm hb hF;go_simp;exact hK'.out _ _ _ (by simp only [y0];rfl) trivial ⟨rfl,HF.out⟩
    ·have y0:x 62=.pointer (some ⟨P,0,none⟩):=(D_ hd 9 :);have HF:=Z_ hF;clear hd hm hb hF;go_simp;exact hK'.out _ _ _ (by simp only [y0];rfl) trivial ⟨rfl,HF.out⟩
    ·obtain⟨v0,rfl⟩:=mD hm
     have y0:x 63=.pointer (some ⟨P,6,none⟩):=(D_ hd 10 :);have y1:x 61=v0:=((D_ hd 8) 61 (by kernel_rfl) :);obtain⟨t6,g6,nX,rfl,hF1,hF2⟩:=hF;obtain⟨p91,p92,p93,p94,p95,hpb⟩:=hF1.p;have hq:=hpb.cell;have AL:=hpb.frozen;have kW:=hpb.lt;have HF:=Z_ hF1;have HF2:=Z_ hF2;have HRT:=Z_ nX;clear hd hm hb hF1 hF2 nX hpb;go_simp;exact hK'.out _ _ undef (by simp only [y0,y1];rfl) trivial ⟨t6,g6,HRT.out,rfl,HF.out.Jv g6,HF2.out.setOther (p:=⟨P,6,none⟩) (by show Kb≠P;omega) _⟩
   case rE=>
    intro x9 qX w9 hl hF hk9;obtain⟨v0,v1,rfl⟩:=DT hl
    obtain⟨t6,g6,nX,rfl,hF1,hF2⟩:=hF;rw [nX] at HT2;have HT3:=Z_ HT2.out;simp only [Rz.bind] at HT3;have I4:=Z_ hF1;have SC:=Z_ hF2;clear hk9 hl hF1 hF2 nX HT2;have hkc:=SC.out.cell;have hqc:=I4.out.qb;go_upto_region 14 with (fail)
    obtain⟨MM,Ox⟩:∃ MM,(pr.gives && !(Sv l1))=MM:=⟨_,rfl⟩;rw [Ox] at HT3;have UT:=Z_ (show aB (BS C Mo cO) ua w9 from by obtain⟨_,_,_,_,_,_,h,_⟩:=I4.out;exact h.weak fun _ _ e=>.inl e);have HXT:=Z_ (show Ext W w9 from by obtain⟨_,_,h,_⟩:=I4.out;exact h.ext);go_cut [] (fun w'=>w'=w9∧MM=false)
    case first=>
     cases gv with
     | false=>
      go_wp2_with fail
      refine(bM 2 (p:Nat) _).mono ?_
      rintro e w9 ⟨rfl,rfl⟩;go_wp2_with fail
      go_meet
      exact⟨rfl,by rw [←Ox,UD.out];rfl⟩
     | true=>
      rw [UD.out] at Ox;rcases Nat.eq_zero_or_pos N1 with h0|h0
      ·subst h0
       have hl0:=List.eq_nil_of_length_eq_zero Oh.out;subst hl0;obtain rfl:MM=true:=Ox.symm;have HT4:=Z_ (show (.bad 2 p:Rz Tr)=T from HT3.out);go_wp2_with fail
       refine(bY 2 (p:Nat) _).mono ?_
       rintro e w9 ⟨rfl,rfl⟩;go_wp2_with fail
       exact⟨rfl,UT.out,by rw [←HT4.out]⟩
      ·have WR:N1-1<l1.length:=by rw [Oh.out];omega
       obtain⟨b1,o1,rfl,hb1,uv1,hu1,aj6,ad5⟩:=HI1.out W (aB.refl _ _) (N1-1) WR;rw [bT] at hb1;have hgl:l1.getLast? = some l1[N1-1]:=by rw [List.getLast?_eq_getElem?,Oh.out,List.getElem?_eq_getElem WR]
       unfold Sv at Ox;rw [hgl] at Ox;generalize l1[N1-1]=y1 at hu1 Ox;obtain⟨k2,t2,m2,l2⟩:=y1;rw [dL] at hu1;obtain⟨a2,c2,rfl,-⟩:=hu1;have q9:w9.cell? ⟨b1,o1+(N1-1)*4,none⟩=some (.int .i64 k2):=(HXT.out.cell (p:=⟨b1,o1+(N1-1)*4,none⟩) hb1 id).trans ((ah _ W).2 _ _ ((ad5 0 (by decide)).trans rfl));obtain⟨n1,rfl⟩:∃ n1,N1=n1+1:=⟨N1-1,by omega⟩;rw [Nat.add_sub_cancel] at q9;have hpo:(0:Int)<(n1:Int)+1:=Int.lt_add_one_of_le (Int.natCast_nonneg n1);have hpd:decide ((0:Int)<(n1:Int)+1)=true:=decide_eq_true hpo;have aj7:wrap64 (n1:Int)=(n1:Int):=by have h1:=oO l1;have h2:=mM.out;have h4:=Oh.out;simp only [fL] at h2;exact IntWalk.wrap64_in _ (by omega)
       have hin:(n1:Int)<(n1:Int)+1:=by omega
       by_cases h14:k2=14
       ·subst h14
        obtain rfl:MM=false:=Ox.symm;go_wp2_with fail
        refine(bM 2 (p:Nat) _).mono ?_
        rintro e w9 ⟨rfl,rfl⟩;go_wp2_with fail
        go_meet
        first|exact⟨rfl,rfl⟩|exact⟨rfl,trivial⟩
       ·have aj8:(k2 == 14)=false:=by simpa using h14
        obtain rfl:MM=true:=by rw [←Ox];simp [Nd.kd,h14]
        have HT4:=Z_ (show (.bad 2 p:Rz Tr)=T from HT3.out);go_wp2_with fail
        refine(bY 2 (p:Nat) _).mono ?_
        rintro e w9 ⟨rfl,rfl⟩;go_wp2_with fail
        exact⟨rfl,UT.out,by rw [←HT4.out]⟩
    case rest=>
     clear hqc hkc;obtain⟨hw,rfl⟩:=hcut;subst hw;have HT4:=Z_ (show (.ok t6:Rz Tr)=T from HT3.out);have Ec:=Z_ (show Grow 1 218 BI Bm wc cO bs from by obtain⟨_,_,_,_,_,_,h,_⟩:=I4.out;exact zT.out.row.aK ja h fun i e=>by have:=zT.out.cB;omega);obtain⟨vl8,pc8,KG,WS,KH,KI,zU,Oy⟩:=I4.out;obtain⟨ra,rc,WT,hr1,hr2⟩:=dZ Ec.out;obtain⟨nb,SD⟩:∃ nb,bs.length=nb:=⟨_,rfl⟩;rw [SD] at WT hr1;have aj9:=Z_ SD;have Ol:=Z_ (fun i e=>bn Ec.out i e);subst WT;have SE:=Z_ KG;have HH:=Z_ (And.intro KH (And.intro KI (And.intro zU Oy)));have HPW:=Z_ WS;clear KG WS KH KI zU Oy SD;go_upto_region 15 with (fail)
     refine aj [15,16,19] (fun i v _=>v=([.pointer (some ⟨C,0,none⟩),.pointer (some ⟨C,0,none⟩),.pointer (some ⟨C,0,none⟩),.pointer (some ⟨Mo,0,none⟩),.pointer (some ⟨C,0,none⟩),.pointer (some ⟨C,0,none⟩),.pointer (some ⟨C,0,none⟩),.pointer (some ⟨Mo,0,none⟩),.pointer (some ⟨Mo,0,none⟩),.pointer (some ⟨Mo,1,none⟩),.slice ra nb rc,.pointer (some ⟨C,0,none⟩),.pointer (some ⟨C,0,none⟩),.pointer (some ⟨C,5,none⟩),.pointer (some ⟨P,0,none⟩),undef,undef,.pointer (some ⟨Mo,0,none⟩),.pointer (some ⟨Mo,1,none⟩),undef]:List Value).getD i undef) (cG.eF (fun u9 rN r lq=>MB wc u9 C Mo D K P Bm vl8 ((q1+fL (.mk 6 t1 m1 l1):Nat):Int) (.slice ra nb rc) dw rN r lq) (fun _=>false) BI Bm 218 (.slice ra nb rc) bs (pr,t6) (.pointer (some ⟨P,0,none⟩))) (fun _ _=>True) (frame:=?ad6) (fun x=>?SG) bu.mixed (by kernel_rfl) (by kernel_rfl) (fun _ _ _ _ h _=>h) ?h0p ?stp ?SH
     case SG=>
      simp only [chain.aN,chain.fill,chain.bf,chain.aY,jW,jX,jY,jZ,kz,kC,kD,kE,kF];exact rfl
     case h0p=>exact⟨⟨(aB.refl _ _).drew,SE.out.c.drew,SE.out.mo.drew,eH (nJ Ec.out FP (fun _=>false)) ja (aB.refl (fun _=>False) wc).drew (fun i e=>e.elim) (fun i e e2=>e2.elim) (fun i e=>by cases e),fun i e=>.inl e⟩,P,rfl⟩
     case stp=>
      iterate 20 (refine ak.cons (fun x vs u hF hm hb hd K' hK'=>?_) ?_;rotate_left)
      exact ak.nil
      ·have HF:=Z_ hF;clear hd hm hb hF;go_simp;exact hK'.out _ _ _ (rfl) trivial ⟨rfl,HF.out⟩
      ·have y0:x 86=.pointer (some ⟨C,0,none⟩):=(D_ hd 0 :);have HF:=Z_ hF;clear hd hm hb hF;go_simp;exact hK'.out _ _ _ (by simp only [y0];rfl) trivial ⟨rfl,HF.out⟩
      ·have y0:x 87=.pointer (some ⟨C,0,none⟩):=(D_ hd 1 :);have HF:=Z_ hF;clear hd hm hb hF;go_simp;exact hK'.out _ _ _ (by simp only [y0];rfl) trivial ⟨rfl,HF.out⟩
      ·obtain⟨_,_,_,aO⟩:=cG.eF.any hF;have hq:=aO.2.1.cell;unfold qK at hq;clear aO;have y0:x 88=.pointer (some ⟨C,0,none⟩):=(D_ hd 2 :);have HF:=Z_ hF;clear hd hm hb hF;go_simp;exact hK'.out _ _ _ (by simp only [y0];rfl) trivial ⟨rfl,HF.out⟩
      ·have HF:=Z_ hF;clear hd hm hb hF;go_simp;exact hK'.out _ _ _ (rfl) trivial ⟨rfl,HF.out⟩
      ·have y0:x 90=.pointer (some ⟨C,0,none⟩):=(D_ hd 4 :);have HF:=Z_ hF;clear hd hm hb hF;go_simp;exact hK'.out _ _ _ (by simp only [y0];rfl) trivial ⟨rfl,HF.out⟩
      ·have y0:x 91=.pointer (some ⟨C,0,none⟩):=(D_ hd 5 :);have HF:=Z_ hF;clear hd hm hb hF;go_simp;exact hK'.out _ _ _ (by simp only [y0];rfl) trivial ⟨rfl,HF.out⟩
      ·obtain⟨_,_,_,aO⟩:=cG.eF.any hF;have hq:=aO.2.1.cell;unfold qK at hq;clear aO;have y0:x 92=.pointer (some ⟨C,0,none⟩):=(D_ hd 6 :);have HF:=Z_ hF;clear hd hm hb hF;go_simp;exact hK'.out _ _ _ (by simp only [y0];rfl) trivial ⟨rfl,HF.out⟩
      ·have y0:x 93=.pointer (some ⟨Mo,0,none⟩):=(D_ hd 7 :);have HF:=Z_ hF;clear hd hm hb hF;go_simp;exact hK'.out _ _ _ (by simp only [y0];rfl) trivial ⟨rfl,HF.out⟩
      ·have y0:x 94=.pointer (some ⟨Mo,0,none⟩):=(D_ hd 8 :);have HF:=Z_ hF;clear hd hm hb hF;go_simp;exact hK'.out _ _ _ (by simp only [y0];rfl) trivial ⟨rfl,HF.out⟩
      ·have aO:=cG.eF.B hF (by have:=hb 1 _ (by decide) rfl (by kernel_rfl);omega);have hq:=aO.2.2.1.cell;clear aO;have y0:x 95=.pointer (some ⟨Mo,1,none⟩):=(D_ hd 9 :);have HF:=Z_ hF;clear hd hm hb hF;go_simp;exact hK'.out _ _ _ (by simp only [y0];rfl) trivial ⟨rfl,HF.out⟩
      ·have HF:=Z_ hF;clear hd hm hb hF;go_simp;exact hK'.out _ _ _ (rfl) trivial ⟨rfl,HF.out⟩
      ·have y0:x 97=.pointer (some ⟨C,0,none⟩):=(D_ hd 11 :);have HF:=Z_ hF;clear hd hm hb hF;go_simp;exact hK'.out _ _ _ (by simp only [y0];rfl) trivial ⟨rfl,HF.out⟩
      ·have y0:x 98=.pointer (some ⟨C,0,none⟩):=(D_ hd 12 :);have HF:=Z_ hF;clear hd hm hb hF;go_simp;exact hK'.out _ _ _ (by simp only [y0];rfl) trivial ⟨rfl,HF.out⟩
      ·obtain⟨_,_,_,aO⟩:=cG.eF.any hF;have hq:=aO.2.1.cell;unfold qK at hq;clear aO;have y0:x 99=.pointer (some ⟨C,5,none⟩):=(D_ hd 13 :);have HF:=Z_ hF;clear hd hm hb hF;go_simp;exact hK'.out _ _ _ (by simp only [y0];rfl) trivial ⟨rfl,HF.out⟩
      ·obtain rfl:=kS hm;have y0:x 100=.pointer (some ⟨P,0,none⟩):=(D_ hd 14 :);have aO:=hF.1;have HG:=Z_ (cG.bH (aO.2.2.2.1));have HF:=Z_ hF;clear hd hm hb hF aO;go_simp;exact hK'.out _ _ _ (by simp only [y0];rfl) trivial ((cG.fF chk.ja (fun u' hE=>⟨HF.out.1.1.ext hE,HF.out.1.2.1.ext hE,HF.out.1.2.2.1.ext hE,eH HF.out.1.2.2.2.1 ja hE (fun i e=>e.elim) (fun i e e2=>e2.elim) (fun i e=>by cases e),HF.out.1.2.2.2.2⟩) (fun i e=>(HG.out i e).2) HF.out rfl))
      ·obtain⟨v0,rfl⟩:=mD hm
       have y0:x 96=.slice ra nb rc:=(D_ hd 10 :);have y1:x 101=v0:=((D_ hd 15) 101 (by kernel_rfl) :);have hF2:=hF;obtain⟨aO,hxx,gg,rfl,hgb,hgr⟩:=hF2;obtain⟨us,hu1,ho,hu3⟩:=(aO.2.2.2.1).ex;obtain⟨iW,iY,hz0,hz1,hz2⟩:=bu.aW cG.KA;have hbz:Bm≤u.heap.size:=by have h1:=zT.out.hu;have h2:=aO.1.size;have h3:=HH.out.2.2.2;have h4:=HH.out.2.2.1.size;omega
       refine wp_append_lies _ _ _ 123 rfl (Bm) 218 iW (.pointer none) 1 8 Tryz.underlying123 iY hz0 hz1 hz2 rfl (by decide) (.slice ra nb rc) bs.length (us.flatMap fun u=>u.cells.toList) y0 ho ⟨gg,0,none⟩ 1 1 [.pointer (some ⟨P,0,none⟩)] y1 rfl ?_ (by intro z_ mN;simp only [List.mem_cons,List.not_mem_nil,or_false] at mN;rcases mN with rfl<;>rfl) (by decide) (by unfold maxLen;have:=HBS.out;omega) (by have:=HBS.out;omega) hbz u.heap.size rfl ?_
       ·intro j q hj;have e:(⟨gg,0,none⟩:Addr).add j=⟨gg,j,none⟩:=(by unfold Addr.add;split<;>simp_all);rw [e,hgb.cell];simpa [Value.cells] using hj
       ·intro g9 c9 w9 ju iZ kU uI
        exact hK'.out _ _ _ rfl trivial ((cG.eG chk.ja hF hu1 hu3 rfl (fun r tY hG hC ha=>⟨aO.1.trans hC (fun i hi e=>.inr e),aO.2.1.aK hC (fun e=>by have:=Ol.out _ e;have:=zT.out.cB;omega),aO.2.2.1.aK hC (fun e=>by have:=Ol.out _ e;have:=zT.out.mB;omega),hG,fun i e=>by rcases ha i e with h9|h9;exact .inl h9;exact .inr (by have:=aO.1.size;omega)⟩) ju iZ kU))
      ·have y0:x 89=.pointer (some ⟨Mo,0,none⟩):=(D_ hd 3 :);have HF:=Z_ hF;clear hd hm hb hF;go_simp;exact hK'.out _ _ _ (by simp only [y0];rfl) trivial ⟨rfl,HF.out⟩
      ·have y0:x 103=.pointer (some ⟨Mo,0,none⟩):=(D_ hd 17 :);have HF:=Z_ hF;clear hd hm hb hF;go_simp;exact hK'.out _ _ _ (by simp only [y0];rfl) trivial ⟨rfl,HF.out⟩
      ·obtain⟨v0,v1,rfl⟩:=tN hm
       have y0:x 104=.pointer (some ⟨Mo,1,none⟩):=(D_ hd 18 :);have y1:x 102=v1:=((D_ hd 16) 102 (by kernel_rfl) :);have hF2:=hF;obtain⟨aO,gg,cc,rfl⟩:=hF2;have hq:=aO.2.2.1.cell;have AL:=aO.2.2.1.frozen;have kW:=aO.2.2.1.lt;have HF:=Z_ hF;clear hd hm hb hF aO;go_simp;exact hK'.out _ _ undef (by simp only [y0,y1];rfl) trivial ((cG.fG (z:=undef) HF.out (fun h=>⟨h.1.setCell (p:=⟨Mo,1,none⟩) (fun _=>.inl rfl) _,h.2.1.setOther (p:=⟨Mo,1,none⟩) (by have:=zT.out.cM;exact this) _,h.2.2.1.set 1 _,eH h.2.2.2.1 ja (ai (S:=Mo) (aB.refl _ _) 1 _) (fun i e=>.inl (by have:=zT.out.mB;omega)) (fun i e e2=>by have:=bH h.2.2.2.1 i e;have:=zT.out.mB;omega) (fun i e=>by cases e),h.2.2.2.2⟩)))
     case SH=>
      intro x9 qX w9 hl hF hk9;obtain⟨v0,v1,v2,rfl⟩:=NR hl
      clear hk9 hl;obtain⟨iV,xZ,Fq,iZ,ju⟩:=(show MB _ _ _ _ _ _ _ _ _ _ _ _ _ _ _ from hF);have kO:=Z_ (And.intro iV (And.intro xZ (And.intro Fq (And.intro iZ ju))));clear iV xZ Fq iZ ju hF;go_wp2_with fail
      go_end0
      obtain⟨iV,xZ,Fq,iZ,ju⟩:=kO.out;obtain⟨KH,KI,zU,Oy⟩:=HH.out;have hms:=zT.out;refine⟨(zU.weak (S':=BS C Mo (.slice ra nb rc)) fun _ _ e=>.inl e).then (iV.weak fun i _ e=>by rcases e with e|e;exact .inr (.inl e);exact .inr (.inr e)),?_⟩
      rw [←HT4.out];refine⟨rfl,vl8,.int .i64 1,.pointer (some ⟨P,0,none⟩),v1,?_,fun i e=>by rcases ju i e with h|h;exact .inl h;exact .inr (Nat.le_trans zU.size h)⟩
      have hcs:=SE.out;obtain⟨n9,hn9,hk9⟩:=hcs.k;have h1:=hms.hC;have h2:=hms.hM;have h3:=hms.hK;have h4:=hms.cB;have h5:=hms.mB;have h6:=hms.kB;have h7:=hcs.ext.size;have h8:=zU.size;have h9:=hms.hu;have h10:=hms.ext.size;have h11:=iV.size
      have WU:q1+fL (.mk 6 t1 m1 l1)=p+fL (.mk 4 t m (ps ++ [.mk 6 t1 m1 l1])):=pI.out;rw [WU] at xZ;have hoW:=Ol.out;exact⟨hcs.ext.trans iV (fun i hi e=>by rcases e with e|e;omega;have:=hoW _ e;omega),xZ,Fq,hms.d,hms.own,⟨n9,hn9,hk9.aK iV (fun e=>by rcases e with e|e;exact hms.mK e.symm;have:=hoW _ e;omega)⟩,zL iZ,h1,h2,h3,h4,h5,h6,hms.cM,hms.cK,hms.mK,by omega⟩
end chk
end Go.Proofs.YtpcihajmcejliacGreatDoor
namespace Go.Proofs.YtpcihajmcejliacGreatDoor
open Go.RowKit
namespace Oi
open bu cG jf
theorem wU (v:Value) (w:World):(Instr.typeAssert (.iface 214 v) 20 214 true).run Tryz.prog w=.ok (.tuple #[v,.bool true]) w:=by kernel_rfl
def lU (R F:Nat) (c p:Int) (w:World) (e:Exit) (a:Act) (w':World):Prop:=e=.normal∧a.defers=[]∧aC w' R #[.pointer none] 119∧aC w' F #[.int .i64 c,.int .i64 p] 27∧aB (fun i=>i=R∨i=F) w w'
def jE (R F B:Nat) (c p:Int) (w0:World) (cs fs:Array Value):List Value→World→Prop
 | [],u=>aC u R cs 119∧aC u F fs 27∧aB (fun i=>i=R∨i=F) w0 u∧aC u B #[.int .i64 c,.int .i64 p] 214
 | [_],u=>aC u R #[.pointer none] 119∧aC u F fs 27∧aB (fun i=>i=R∨i=F) w0 u∧aC u B #[.int .i64 c,.int .i64 p] 214
 | _,u=>aC u R #[.pointer none] 119∧aC u F #[.int .i64 c,.int .i64 p] 27∧aB (fun i=>i=R∨i=F) w0 u∧aC u B #[.int .i64 c,.int .i64 p] 214
theorem jE.b {R F B:Nat} {c p:Int} {w0 u:World} {cs fs:Array Value} {vs:List Value} (h:jE R F B c p w0 cs fs vs u):aC u B #[.int .i64 c,.int .i64 p] 214:=by
 match vs,h with
 | [],h=>exact h.2.2.2
 | [_],h=>exact h.2.2.2
 | _::_::_,h=>exact h.2.2.2
set_option maxRecDepth 100000 in
set_option maxHeartbeats 4000000 in
theorem jA (R F:Nat) (c0 f0 f1:Value) (c p:Int) (w:World) (hR:aC w R #[c0] 119) (hF:aC w F #[f0,f1] 27) (hne:R≠F) :
  CallsD Tryz.prog 107 #[.pointer (some ⟨R,0,none⟩),.pointer (some ⟨F,0,none⟩)] (.panicking (chk.nG c p)) w fun e u' w'=>
   e=.returned (.tuple #[])∧u'=.panicking [{ v:=.iface 214 (.agg #[.int .i64 c,.int .i64 p]),recovered:=true }]∧aC w' R #[.pointer none] 119∧aC w' F #[.int .i64 c,.int .i64 p] 27∧aB (fun i=>i=R∨i=F) w w':=by
 have hta:=wU;have Bv:=hR.lt;have Bz:=hF.lt;obtain⟨B,hB⟩:∃ B,w.heap.size=B:=⟨_,rfl⟩;have hB0:=aC.made w #[.int .i64 c,.int .i64 p] 214;rw [hB] at hB0 Bv Bz;have hR0:=hR.alloc (.cells #[.int .i64 c,.int .i64 p] 214);have kY:=hF.alloc (.cells #[.int .i64 c,.int .i64 p] 214);have lH:=(aB.refl (fun i=>i=R∨i=F) w).alloc (.cells #[.int .i64 c,.int .i64 p] 214);refine callsD_of_wpS Tryz.func107 rfl fun c₀ cs hu=>?_
 unfold chk.nG at hu;apply wpS_seq
 apply wpS_region
 simp [wpOpsS,go_sem,recoverD,hu,Tryz.ntmps107,Exit.thenS]
 simp only [Array.replicate,List.replicate,List.append_toArray,List.setIfInBounds_toArray,List.set_cons_zero,List.set_cons_succ,List.cons_append,List.nil_append];refine wpS_of_wp (Code.wp_mono (Q:=lU R F c p w) ?_ ?_)
 ·rintro e a w1 ⟨rfl,hd,h1,h2,h3⟩
  exact⟨hd,_,rfl,_,results_none rfl _ _ _,rfl,rfl,h1,h2,h3⟩
 clear hu;have HR0:=Z_ hR0;have o_:=Z_ kY;have HX0:=Z_ lH;have SI:=Z_ hB0;clear hR hF hR0 kY lH hB0;unfold lU;go_upto_region 5 with (fail)
 try rw [hB]
 generalize w.alloc (.cells #[.int .i64 c,.int .i64 p] 214)=u0 at *;refine aj [2,3] (fun i v _=>v=([.pointer (some ⟨B,0,none⟩),.agg #[.int .i64 c,.int .i64 p],undef,undef]:List Value).getD i undef) (jE R F B c p w #[c0] #[f0,f1]) (fun _ _=>True) (frame:=?KJ) (fun x=>?r_) bu.mixed (by kernel_rfl) (by kernel_rfl) (fun _ _ _ _ h _=>h) ?h0c ?KL ?wV
 case r_=>
  simp only [chain.aN,chain.fill,chain.bf,chain.aY,jW,jX,jY,jZ,kz,kC,kD,kE,kF];exact rfl
 case h0c=>exact⟨HR0.out.drew,o_.out.drew,HX0.out.drew,SI.out.drew⟩
 case KL=>
  iterate 4 (refine ak.cons (fun x vs u hF hm hb hd K' hK'=>?_) ?_;rotate_left)
  exact ak.nil
  ·have HF:=Z_ hF;clear hd hm hb hF;go_simp;exact hK'.out _ _ _ (rfl) trivial ⟨rfl,HF.out⟩
  ·have hc:=hF.b.cell;have y0:x 16=.pointer (some ⟨B,0,none⟩):=(D_ hd 0 :);have HF:=Z_ hF;clear hd hm hb hF;go_simp;exact hK'.out _ _ _ (by simp only [y0];rfl) trivial ⟨rfl,HF.out⟩
  ·obtain rfl:=kS hm;obtain⟨g1,g2,g3,g4⟩:=(show _∧_ from hF);have hc:=g1.cell;have hf:=g1.frozen;have hl:=g1.lt;have HG:=Z_ (And.intro g1 (And.intro g2 (And.intro g3 g4)));clear hd hm hb hF g1 g2 g3 g4;go_simp;obtain⟨g1,g2,g3,g4⟩:=HG.out;exact hK'.out _ _ undef rfl trivial ⟨g1.set 0 _,g2.setOther (p:=⟨R,0,none⟩) (by show F≠R;omega) _,g3.setCell (p:=⟨R,0,none⟩) (fun _=>.inl rfl) _,g4.setOther (p:=⟨R,0,none⟩) (by show B≠R;omega) _⟩
  ·have y0:x 17=.agg #[.int .i64 c,.int .i64 p]:=(D_ hd 1 :);obtain⟨v0,rfl⟩:=mD hm
   obtain⟨g1,g2,g3,g4⟩:=(show _∧_ from hF);have hc:=g2.cell;have hf:=g2.frozen;have hl:=g2.lt;have HG:=Z_ (And.intro g1 (And.intro g2 (And.intro g3 g4)));clear hd hm hb hF g1 g2 g3 g4;go_simp;obtain⟨g1,g2,g3,g4⟩:=HG.out;exact hK'.out _ _ undef (by simp only [y0];rfl) trivial ⟨(g1.setOther (p:=⟨F,0,none⟩) hne _).setOther (p:=⟨F,1,none⟩) hne _,(g2.set 0 _).set 1 _,(g3.setCell (p:=⟨F,0,none⟩) (fun _=>.inr rfl) _).setCell (p:=⟨F,1,none⟩) (fun _=>.inr rfl) _,(g4.setOther (p:=⟨F,0,none⟩) (by show B≠F;omega) _).setOther (p:=⟨F,1,none⟩) (by show B≠F;omega) _⟩
 case wV=>
  intro x vs w9 hl hF hk;obtain⟨v0,v1,rfl⟩:=DT hl
  obtain⟨g1,g2,g3,g4⟩:=(show _∧_ from hF);clear hk hl;have HG:=Z_ (And.intro g1 (And.intro g2 g3));clear hF g1 g2 g3 g4;go_wp2_with (fail)
  exact HG.out
theorem ug (R F:Nat) (w:World) :
  CallsD Tryz.prog 107 #[.pointer (some ⟨R,0,none⟩),.pointer (some ⟨F,0,none⟩)] .returning w fun e u' w'=>e=.returned (.tuple #[])∧u'=.returning∧w'=w:=by
 refine callsD_of_wpS Tryz.func107 rfl fun c₀ cs hu=>?_
 apply wpS_seq
 apply wpS_region
 simp [wpOpsS,go_sem,recoverD,hu,Tryz.ntmps107,Exit.thenS]
 simp only [Array.replicate,List.replicate,List.append_toArray,List.setIfInBounds_toArray,List.set_cons_zero,List.set_cons_succ,List.cons_append,List.nil_append];refine wpS_of_wp (Code.wp_mono (Q:=fun e a' w'=>e=.normal∧a'.defers=[]∧w'=w) ?_ ?_)
 ·rintro e a w1 ⟨rfl,hd,rfl⟩
  exact⟨hd,.returning,by cases c₀;simp_all,_,results_none rfl _ _ _,rfl,rfl,rfl⟩
 clear hu;go_wp2_with (fail)
end Oi
end Go.Proofs.YtpcihajmcejliacGreatDoor
namespace Go.Proofs.YtpcihajmcejliacGreatDoor
open Go.RowKit
namespace face
theorem dF (n:Int) (w:World):Calls Tryz.prog 57 #[.int .i64 n] w fun e w'=>e=.returned (.bool (pK n))∧w'=w:=by
 go_enter Tryz.func57,Tryz.ntmps57
 go_wp2
 all_goals go_ret
 all_goals go_light
 all_goals refine⟨bW ?_,rfl⟩
 all_goals simp_all [pK]
end face
end Go.Proofs.YtpcihajmcejliacGreatDoor
namespace Go.Proofs.YtpcihajmcejliacGreatDoor
open Go.RowKit
instance:DecidableEq eY:=fun ⟨a,b,c,d⟩ ⟨a',b',c',d'⟩=>decidable_of_iff (a=a'∧b=b'∧c=c'∧d=d') (by simp)
instance:DecidableEq aI:=fun ⟨a,b,c,d,e,f⟩ ⟨a',b',c',d',e',f'⟩=>decidable_of_iff (a=a'∧b=b'∧c=c'∧d=d'∧e=e'∧f=f') (by simp)
instance:DecidableEq aQ:=fun ⟨a,b,c⟩ ⟨a',b',c'⟩=>decidable_of_iff (a=a'∧b=b'∧c=c') (by simp)
namespace face
end face
end Go.Proofs.YtpcihajmcejliacGreatDoor
