/- The walk of the checker's statements and blocks, joined. The checker between procedures: the row of bodies. The walk of the checker's body: one procedure. The checker's recover. -/
import Derived.Defers
import Derived.Recover
import Derived.Test.YtpcihajmcejliacGreatDoorChkT
import Derived.Test.YtpcihajmcejliacGreatDoorChkV
namespace Go.Proofs.YtpcihajmcejliacGreatDoor
open Go.RowKit
namespace chk
open bH fF
theorem both_any {W:World} {C Mo D K P B:Nat} {E:eG} {eF fB:Value} {dc:Array Value} {pr:aO} {H:Nat→Bool} (hmv:dG W):∀ x,fC x→(uP x.kd→Lm W C Mo D K P B E eF fB dc pr H x)∧(x.kd=6→AP W C Mo D K P B E eF fB dc pr H x):=by
 refine gz fun k t m l ih his=>⟨fun hk=>uZ hmv _ his hk fun y hy h6=>(ih y hy (his.kids y hy)).2 h6,fun h6=>rX _ fun y hy=>(ih y hy (his.kids y hy)).1 ?_⟩
 obtain rfl:k=6:=h6;have hf:=his.form;cases hf with
 | block hl=>exact hl y hy
theorem Qz {W:World} {C Mo D K P B:Nat} {E:eG} {eF fB:Value} {dc:Array Value} {pr:aO} {H:Nat→Bool} (hmv:dG W) (x:Nd) (his:fC x) (h6:x.kd=6):AP W C Mo D K P B E eF fB dc pr H x:=(both_any hmv x his).2 h6
end chk
end Go.Proofs.YtpcihajmcejliacGreatDoor
namespace Go.Proofs.YtpcihajmcejliacGreatDoor
open Go.RowKit
namespace chk
open bH fF
def GX (_:aO×Tr) (v:Value) (_:World):Prop:=∃ g,v=.pointer (some ⟨g,0,none⟩)
theorem lF (x:aO×Tr) (u:Value) (w w':World) (_:gh w w') (h:GX x u w):GX x u w':=h
theorem LG (x:aO×Tr) (u:Value) (w w':World) (h:GX x u w):GX x u w':=h
end chk
namespace fF
theorem QA:(Tryz.prog.info? 218).map (fun i=>(i.zero,i.size,i.bytes))=some (some (.pointer none),1,8):=by kernel_rfl
end fF
namespace chk
open bH fF
structure MS (W u:World) (C Mo D K Bm:Nat) (E:eG) (v2 v3 v5:Value) (at_:Int) (eF fB:Value) (dc:Array Value) (bs:List (aO×Tr)):Prop where
 ext:Ext W u
 c:aJ u C #[.pointer (some ⟨Mo,0,none⟩),.map (some K),v2,v3,.int .i64 at_,v5,.pointer none] 221
 mo:aJ u Mo #[.pointer (some ⟨D,0,none⟩),eF,fB] 125
 d:aJ W D dc 128
 own:∃ v0 v1 v2 d3 d4 d5 d6 d7 d8,dc=#[v0,v1,v2,d3,d4,d5,d6,d7,d8]∧kL W E.own (.agg #[v0,v1,v2])
 k:∃ n,n≤E.known.length∧uf.sD W u K n E.known
 row:Grow 1 218 GX Bm u eF bs
 hC:W.heap.size≤C
 hM:W.heap.size≤Mo
 hK:W.heap.size≤K
 cB:C<Bm
 mB:Mo<Bm
 kB:K<Bm
 cM:C≠Mo
 cK:C≠K
 mK:Mo≠K
 hu:Bm≤u.heap.size
theorem MS.extend {W u u':World} {C Mo D K Bm:Nat} {E:eG} {v2 v3 v5:Value} {at_:Int} {eF fB:Value} {dc:Array Value} {bs:List (aO×Tr)} (h:MS W u C Mo D K Bm E v2 v3 v5 at_ eF fB dc bs) (hE:Ext u u'):MS W u' C Mo D K Bm E v2 v3 v5 at_ eF fB dc bs:=by
 obtain⟨n,hn,hk⟩:=h.k;exact⟨h.ext.ext hE,h.c.ext hE,h.mo.ext hE,h.d,h.own,⟨n,hn,hk.aU hE id⟩,h.row.aU lF hE (fun _ e=>e.elim),h.hC,h.hM,h.hK,h.cB,h.mB,h.kB,h.cM,h.cK,h.mK,Nat.le_trans h.hu hE.size⟩
theorem MS.p_ {W u u':World} {C Mo D K Bm:Nat} {E:eG} {v2 v3 v5 v2' v3' v5':Value} {at_ at':Int} {eF fB:Value} {dc:Array Value} {bs:List (aO×Tr)} (h:MS W u C Mo D K Bm E v2 v3 v5 at_ eF fB dc bs) (hC:aB (fun i=>i=C) u u') (hc:aJ u' C #[.pointer (some ⟨Mo,0,none⟩),.map (some K),v2',v3',.int .i64 at',v5',.pointer none] 221):MS W u' C Mo D K Bm E v2' v3' v5' at' eF fB dc bs:=by
 obtain⟨n,hn,hk⟩:=h.k;have h1:=h.hC;have h2:=h.cB;have h3:=h.cM;have h4:=h.cK
 exact⟨h.ext.trans hC (fun i hi e=>by omega),hc,h.mo.aU hC (fun e=>h3 e.symm),h.d,h.own,⟨n,hn,hk.aU hC (fun e=>h4 e.symm)⟩,h.row.aU lF hC (fun i e=>by omega),h1,h.hM,h.hK,h2,h.mB,h.kB,h3,h4,h.mK,Nat.le_trans h.hu hC.size⟩
theorem MS.begin {W u:World} {C Mo D K Bm P B:Nat} {E:eG} {at_:Int} {eF fB:Value} {dc pc:Array Value} {bs:List (aO×Tr)} (h:MS W u C Mo D K Bm E (.slice none 0 0) (.int .i64 1) (.pointer (some ⟨P,0,none⟩)) at_ eF fB dc bs) (hP:aJ u P pc 297) (hp:Bm≤P) (hB:P<B) (hu:B≤u.heap.size):CS W u C Mo D K P B E (.slice none 0 0) [] 1 at_ eF fB dc pc:=by
 have h1:=h.hC;have h2:=h.cB;have h3:=h.mB;have h4:=h.kB;have h5:=h.hM;have h6:=h.hK
 exact⟨h.ext,h.c,h.mo,h.d,h.own,h.k,hP,Grow.nil _ _ _ _ _,h1,h.hM,h.hK,by omega,by omega,by omega,by omega,hB,h.cM,h.cK,by omega,h.mK,by omega,by omega,hu⟩
end chk
end Go.Proofs.YtpcihajmcejliacGreatDoor
namespace Go.Proofs.YtpcihajmcejliacGreatDoor
open Go.RowKit
namespace chk
open bH fF
def BS (C Mo:Nat) (eF:Value) (i:Nat):Prop:=i=C∨i=Mo∨eF.ownBlock=some i
def QB (W u:World) (C Mo D K Bm:Nat) (E:eG) (at_:Nat) (eF fB:Value) (dc:Array Value) (bs:List (aO×Tr)) (pr:aO) (T:Rz Tr) (e:Ending) (u':World):Prop:=aB (BS C Mo eF) u u'∧match T with
 | .bad c p=>e=.panicked (rB c (p:Nat))
 | .ok t=>e=.returned (.tuple #[])∧∃ v2 v3 v5 QC,MS W u' C Mo D K Bm E v2 v3 v5 (at_:Nat) QC fB dc (bs ++ [(pr,t)])∧(∀ i,QC.ownBlock=some i→eF.ownBlock=some i∨u.heap.size≤i)
theorem vO {t:ByteArray} {m:Int} {l:List Nd} (h:Form 4 t m l):∃ ps b,l=ps ++ [b]∧(∀ y∈ps,y.kd=5)∧b.kd=6:=by
 cases h with
 | proc ht h0 h1 hp hb=>exact⟨_,_,rfl,hp,hb⟩
set_option maxRecDepth 100000 in
theorem GY {u:World} {C:Nat} {x0 x1 x2 x3 x5 x6:Value} {at_:Int} (hc:aJ u C #[x0,x1,x2,x3,.int .i64 at_,x5,x6] 221) (h0:0≤at_) (h1:at_≤100000) :
  Calls Tryz.prog 108 #[.pointer (some ⟨C,0,none⟩)] u fun e u'=>e=.returned (.int .i64 at_)∧aB (fun i=>i=C) u u'∧aJ u' C #[x0,x1,x2,x3,.int .i64 (at_+1),x5,x6] 221:=by
 have HC:=Z_ hc;have q:=hc.cell;have qf:=hc.frozen;have ql:=hc.lt;have hw:IntKind.i64.wrap (at_+1)=at_+1:=wrap_small _ (by omega) (by omega);have hw2:IntKind.i64.wrap (at_+1-1)=at_:=by rw [wrap_small _ (by omega) (by omega)];omega
 have hw3:at_+1-1=at_:=by omega
 clear hc;go_enter Tryz.func108,Tryz.ntmps108
 go_wp2_with fail
 go_ret
 exact⟨by first|rfl|(rw [hw3]),aA (aB.refl _ _) 4 _,HC.out.set 4 (.int .i64 (at_+1))⟩
def BX (W u0 u:World) (C Mo D K P Nb:Nat) (E:eG) (L:List Loc) (q:Int) (eF fB:Value) (dc:Array Value) (pr:aO) (nc qc:Array Value):Prop:=∃ vl pc,CS W u C Mo D K P (P+1) E vl L 1 q eF fB dc pc∧EC pr pc∧aJ u Nb nc 24∧aJ u (Nb+1) qc 68∧aB (fun i=>i=C) u0 u∧u0.heap.size=Nb∧C<Nb∧Nb+1<P
theorem BX.far {W u:World} {C Mo D K P:Nat} {E:eG} {vl:Value} {L:List Loc} {q:Int} {eF fB:Value} {dc pc:Array Value} {Nb:Nat} (h1:CS W u C Mo D K P (P+1) E vl L 1 q eF fB dc pc) (_h7:C<Nb) (h8:Nb+1<P):∀ i,i≤Nb+1→LS C P vl i→i=C:=fun i hi e=>by
 rcases e with e|e|e
 ·exact e
 ·omega
 ·have:=bG h1.loc i e;omega
theorem BX.call {W u0 u u':World} {C Mo D K P Nb:Nat} {E:eG} {vl Gg:Value} {L L':List Loc} {q q':Int} {eF fB:Value} {dc pc pc':Array Value} {pr:aO} {nc qc:Array Value} (h1:CS W u C Mo D K P (P+1) E vl L 1 q eF fB dc pc) (h3:aJ u Nb nc 24) (h4:aJ u (Nb+1) qc 68) (h5:aB (fun i=>i=C) u0 u) (h6:u0.heap.size=Nb∧C<Nb∧Nb+1<P) (hC:aB (LS C P vl) u u') (hcs:CS W u' C Mo D K P (P+1) E Gg L' 1 q' eF fB dc pc') (hpc:EC pr pc'):BX W u0 u' C Mo D K P Nb E L' q' eF fB dc pr nc qc:=by
 have hf:=BX.far h1 h6.2.1 h6.2.2;have h7:=h6.1;have h8:=h6.2.1
 exact⟨Gg,pc',hcs,hpc,h3.aU hC (fun e=>by have:=hf _ (by omega) e;omega),h4.aU hC (fun e=>by have:=hf _ (by omega) e;omega),h5.trans hC (fun i hi e=>hf i (by omega) e),h6⟩
theorem BX.XT {W u0 u:World} {C Mo D K P Nb:Nat} {E:eG} {L:List Loc} {q:Int} {eF fB:Value} {dc:Array Value} {pr:aO} {nc qc:Array Value} (h:BX W u0 u C Mo D K P Nb E L q eF fB dc pr nc qc) (g:Nat):BX W u0 (u.setCell ⟨P,6,none⟩ (.pointer (some ⟨g,0,none⟩))) C Mo D K P Nb E L q eF fB dc pr nc qc:=by
 obtain⟨vl,pc,h1,⟨p1,p2,p3,b,mo,rfl,hm0,hm1⟩,h3,h4,h5,h6⟩:=h;have hC:=aA (S:=P) (aB.refl _ u) 6 (.pointer (some ⟨g,0,none⟩));exact BX.call h1 h3 h4 h5 h6 (hC.weak fun _ _ e=>.inr (.inl e)) (h1.Qn (hC.weak fun _ _ e=>.inr (.inl e)) (h1.c.aU hC h1.cP) (h1.p.set 6 _) (h1.loc.aU jB hC fun i e=>by omega)) ⟨p1,p2,p3,_,mo,rfl,hm0,hm1⟩
theorem BX.p {W u0 u:World} {C Mo D K P Nb:Nat} {E:eG} {L:List Loc} {q:Int} {eF fB:Value} {dc:Array Value} {pr:aO} {nc qc:Array Value} (h:BX W u0 u C Mo D K P Nb E L q eF fB dc pr nc qc):∃ p1 p2 p3 b mo,aJ u P #[.string pr.name,p1,p2,p3,.bool pr.gives,.int .i64 pr.given,b,.int .i64 mo] 297:=by
 obtain⟨vl,pc,h1,⟨p1,p2,p3,b,mo,rfl,-⟩,-⟩:=h;exact⟨p1,p2,p3,b,mo,h1.p⟩
def MB (u0 u:World) (C Mo D K P Bm:Nat) (vl:Value) (at_:Int) (eF fB:Value) (rN r:Value) (lq:List (aO×Tr)):Prop:=
 aB (fun i=>i=Mo∨eF.ownBlock=some i) u0 u∧aJ u C (wK Mo K vl 1 at_ P) 221∧aJ u Mo #[.pointer (some ⟨D,0,none⟩),rN,fB] 125∧lV (fun _=>false) 1 218 GX Bm u r lq∧(∀ i,r.ownBlock=some i→eF.ownBlock=some i∨u0.heap.size≤i)
def XU (l:List Nd):Bool:=match l.getLast? with
 | some s=>decide (s.kd=14)
 | none=>false
theorem UC (E:eG) (pr:aO) (x:Nd) (at_:Nat):u_ E pr x at_=(C0 E pr pr.writes true (ve x.kids.dropLast) 1 (x.kids.getLastD kE) (at_+1+x.kids.dropLast.length)).bind fun b=>if (pr.gives && !(XU (x.kids.getLastD kE).kids))=true then .bad 2 at_ else .ok b:=rfl
def NJ (pre post:World→Prop) (RY:Rz Tr):List Value→World→Prop
 | [],u=>pre u
 | v::_,u=>∃ t g,RY=.ok t∧v=.pointer (some ⟨g,0,none⟩)∧post u
theorem NJ.any {pre post:World→Prop} {RY:Rz Tr} {vs:List Value} {u:World} {Q:Prop} (h:NJ pre post RY vs u) (h1:pre u→Q) (h2:post u→Q):Q:=by
 match vs,h with
 | [],h=>exact h1 h
 | _::_,⟨_,_,_,_,h⟩=>exact h2 h
theorem BX.ptr {W u0 u:World} {C Mo D K P Nb:Nat} {E:eG} {L:List Loc} {q:Int} {eF fB:Value} {dc:Array Value} {pr:aO} {nc qc:Array Value} (h:BX W u0 u C Mo D K P Nb E L q eF fB dc pr nc qc):u.cell? ⟨C,5,none⟩=some (.pointer (some ⟨P,0,none⟩)):=by
 obtain⟨vl,pc,h1,-⟩:=h;exact(h1.c.cell 5).trans rfl
theorem BX.qb {W u0 u:World} {C Mo D K P Nb:Nat} {E:eG} {L:List Loc} {q:Int} {eF fB:Value} {dc:Array Value} {pr:aO} {nc qc:Array Value} (h:BX W u0 u C Mo D K P Nb E L q eF fB dc pr nc qc):∀ o9,u.cell? ⟨Nb+1,o9,none⟩=qc[o9]?:=by
 obtain⟨vl,pc,h1,h2,h3,h4,-⟩:=h;exact h4.cell
set_option maxRecDepth 100000 in
set_option maxHeartbeats 32000000 in
theorem QD {W ua:World} {C Mo D K Bm:Nat} {E:eG} {v2 v3 v5:Value} {eF fB:Value} {dc:Array Value} {bs:List (aO×Tr)} {H:Nat→Bool} {p:Nat} (hmv:dG W) (hms:MS W ua C Mo D K Bm E v2 v3 v5 (p:Nat) eF fB dc bs) (x:Nd) (his:fC x) (hk:x.kd=4) (v:Value) (hnd:ij (hide H W) x v) (hsz:p+dL x≤1000) (hpl:x.kids.dropLast.length≤5) (pr:aO) (pb gv:Bool) (hgv:pr.gives=gv) (pa:Option Addr) (yJ:Nat) (hbs:bs.length≤1000) :
  Calls Tryz.prog 110 #[.pointer (some ⟨C,0,none⟩),v,.agg #[.string pr.name,.bool pb,.slice pa pr.params.length yJ,.int .i64 pr.writes,.bool gv,.int .i64 pr.given]] ua (QB W ua C Mo D K Bm E (p+dL x) eF fB dc bs pr (u_ E pr x p)):=by
 obtain⟨k,t,m,l⟩:=x;obtain rfl:k=4:=hk;obtain⟨ps,bb,rfl,hps,hb6⟩:=vO his.form;rw [dY] at hnd;obtain⟨a,cc,rfl,hl1,hl2,hl3,hl4⟩:=hnd;obtain⟨T,hT⟩:∃ T,u_ E pr (.mk 4 t m (ps ++ [bb])) p=T:=⟨_,rfl⟩;rw [hT];have HT:=Z_ hT;have ZC:=Z_ hgv;have HPS:=Z_ hps;have QE:=Z_ hb6;have HIS:=Z_ his.kids;obtain⟨n,hn⟩:∃ n,ps.length=n:=⟨_,rfl⟩;obtain⟨N,hN⟩:∃ N,(ps ++ [bb]).length=N:=⟨_,rfl⟩;have yL:N=n+1:=by rw [←hN,←hn];simp
 have hn5:n≤5:=by have h:(ps ++ [bb]).dropLast.length≤5:=hpl;rw [←hn];simpa using h
 subst yL;rw [hN] at hl1 ⊢;have AL:=Z_ hn;have HI:=Z_ (fun (ua:World) (hE:Ext W ua)=>hl4.keeps (aN hE fun i _ e=>e.elim) fun b o y=>jd (aN hE fun i _ e=>e.elim) b o y);have hE0:=((aB.refl (fun _=>False) ua).alloc (.cells #[.int .i64 4,.string t,.int .i64 m,.slice a (n+1) cc] 24)).alloc (.cells #[.string pr.name,.bool pb,.slice pa pr.params.length yJ,.int .i64 pr.writes,.bool gv,.int .i64 pr.given] 68);have HM:=Z_ (hms.extend hE0);have EP:=Z_ hms;have HBS:=Z_ hbs;have HE:=Z_ hE0;have HB:=Z_ ((aJ.made ua #[.int .i64 4,.string t,.int .i64 m,.slice a (n+1) cc] 24).alloc (.cells #[.string pr.name,.bool pb,.slice pa pr.params.length yJ,.int .i64 pr.writes,.bool gv,.int .i64 pr.given] 68));have HQ:=Z_ (aJ.made (ua.alloc (.cells #[.int .i64 4,.string t,.int .i64 m,.slice a (n+1) cc] 24)) #[.string pr.name,.bool pb,.slice pa pr.params.length yJ,.int .i64 pr.writes,.bool gv,.int .i64 pr.given] 68)
 obtain⟨Nb,hNb⟩:∃ Nb,ua.heap.size=Nb:=⟨_,rfl⟩;have hQb:(ua.alloc (.cells #[.int .i64 4,.string t,.int .i64 m,.slice a (n+1) cc] 24)).heap.size=Nb+1:=by rw [←hNb];exact Array.size_push ..
 rw [hNb] at HB;rw [hQb] at HQ;have C7:=Z_ hNb;have ZE:=Z_ (show Bm≤Nb by rw [←hNb];exact hms.hu);have qI:=Z_ hsz;have hp:p≤1000:=by omega
 clear hT hps hb6 his hn hN hpl hl4 hms hE0 hsz hgv;go_enter Tryz.func110,Tryz.ntmps110
 go_upto_region 1 with (fail)
 try rw [hQb]
 try rw [hNb]
 clear hQb hNb;generalize (ua.alloc (.cells #[.int .i64 4,.string t,.int .i64 m,.slice a (n+1) cc] 24)).alloc (.cells #[.string pr.name,.bool pb,.slice pa pr.params.length yJ,.int .i64 pr.writes,.bool gv,.int .i64 pr.given] 68)=u1 at *;go_wp2_with fail
 refine(GY HM.out.c (by omega) (by omega)).mono ?_
 rintro e w2 ⟨rfl,hC2,hB2⟩;have Dk:=Z_ (HM.out.p_ hC2 hB2);have HB2:=Z_ (HB.out.aU hC2 (by have:=HM.out.cB;have:=ZE.out;omega));have uM:=Z_ (HQ.out.aU hC2 (by have:=HM.out.cB;have:=ZE.out;omega));have tK:=Z_ ((HE.out.weak (S':=fun i=>i=C) fun _ _ e=>e.elim).then hC2);clear hC2 hB2 HM HB HQ HE;have hqc:=uM.out.cell;have hcc:=Dk.out.c.cell;have hcf:=Dk.out.c.frozen;have hcl:=Dk.out.c.lt;go_upto_region 4 with (fail)
 obtain⟨P,hP⟩:∃ P,w2.heap.size=P:=⟨_,rfl⟩;obtain⟨w3,hw3⟩:∃ w3,((w2.setCell ⟨C,5,none⟩ (.pointer (some ⟨P,0,none⟩))).setCell ⟨C,2,none⟩ (.slice none 0 0)).setCell ⟨C,3,none⟩ (.int .i64 1)=w3:=⟨_,rfl⟩;have uG:=aA (aA (aA (S:=C) (aB.refl _ w2) 5 (.pointer (some ⟨P,0,none⟩))) 2 (.slice none 0 0)) 3 (.int .i64 1);have hB3:=((Dk.out.c.set 5 (.pointer (some ⟨P,0,none⟩))).set 2 (.slice none 0 0)).set 3 (.int .i64 1);rw [hw3] at uG hB3;have HM3:=Z_ ((Dk.out.p_ uG hB3).extend ((aB.refl (fun _=>False) w3).alloc (.cells #[.string pr.name,.bool pb,.slice pa pr.params.length yJ,.int .i64 pr.writes,.bool gv,.int .i64 pr.given,.pointer none,.int .i64 0] 297)));have JG:w3.heap.size=P:=by rw [←hw3,←hP];simp
 rw [hP,hw3];have hHP:=aJ.made w3 #[.string pr.name,.bool pb,.slice pa pr.params.length yJ,.int .i64 pr.writes,.bool gv,.int .i64 pr.given,.pointer none,.int .i64 0] 297;rw [JG] at hHP;have UD:=Z_ hHP;have HB4:=Z_ ((HB2.out.aU uG (by have:=Dk.out.cB;have:=ZE.out;omega)).alloc (.cells #[.string pr.name,.bool pb,.slice pa pr.params.length yJ,.int .i64 pr.writes,.bool gv,.int .i64 pr.given,.pointer none,.int .i64 0] 297));have ZF:=Z_ ((uM.out.aU uG (by have:=Dk.out.cB;have:=ZE.out;omega)).alloc (.cells #[.string pr.name,.bool pb,.slice pa pr.params.length yJ,.int .i64 pr.writes,.bool gv,.int .i64 pr.given,.pointer none,.int .i64 0] 297));have ab3:=Z_ ((tK.out.then uG).alloc (.cells #[.string pr.name,.bool pb,.slice pa pr.params.length yJ,.int .i64 pr.writes,.bool gv,.int .i64 pr.given,.pointer none,.int .i64 0] 297))
 have ZG:Nb+1<P:=by rw [←hP];exact uM.out.lt
 clear hw3 uG hB3 hHP JG hP HB2 uM Dk tK hqc hcc hcf hcl;generalize w3.alloc (.cells #[.string pr.name,.bool pb,.slice pa pr.params.length yJ,.int .i64 pr.writes,.bool gv,.int .i64 pr.given,.pointer none,.int .i64 0] 297)=u4 at *;have ZH:=Z_ (HM3.out.begin (B:=P+1) UD.out (by have:=ZE.out;omega) (by omega) UD.out.lt);have HX4:=Z_ (show BX W ua u4 C Mo D K P Nb E [] ((p:Nat)+1) eF fB dc pr #[.int .i64 4,.string t,.int .i64 m,.slice a (n+1) cc] #[.string pr.name,.bool pb,.slice pa pr.params.length yJ,.int .i64 pr.writes,.bool gv,.int .i64 pr.given] from⟨_,_,ZH.out,⟨_,_,_,_,_,by rw [ZC.out],Int.le_refl _,by decide⟩,HB4.out,ZF.out,ab3.out,C7.out,by have:=HM3.out.cB;have:=ZE.out;omega,ZG⟩);clear ZH UD HB4 ZF ab3 HM3;obtain⟨-,-,-,-,hbb,-,-⟩:=HX4.out;have hbc:=hbb.cell;clear hbb
 have hwn:IntKind.i64.wrap ((n:Int)+1-1)=(n:Int):=by rw [wrap_small _ (by omega) (by omega)];omega
 have hni:(n:Int)≤(cc:Int):=by omega
 have hn0:(0:Int)≤(n:Int):=by omega
 go_wp2_with fail
 clear hbc hwn hni hn0;go_loopw [35] (fun i wr=>∃ j:Nat,j≤n∧i=.int .i64 (j:Nat)∧Hid (BX W ua wr C Mo D K P Nb E (ve (ps.take j)) ((p:Nat)+1+(j:Int)) eF fB dc pr #[.int .i64 4,.string t,.int .i64 m,.slice a (n+1) cc] #[.string pr.name,.bool pb,.slice pa pr.params.length yJ,.int .i64 pr.writes,.bool gv,.int .i64 pr.given])) (fun i _=>n-(intOf i).toNat)
 case atStart=>exact⟨0,Nat.zero_le _,rfl,by rw [List.take_zero];exact HX4⟩
 clear HX4
 case round=>
  obtain⟨j,hj,rfl,HX⟩:=hrel;by_cases hlt:j<n
  ·have hji:(j:Int)<(n:Int):=by omega
   have hjd:decide ((j:Int)<(n:Int))=true:=by simpa using hji
   have DK:j<ps.length:=by rw [AL.out];exact hlt
   have hjl:j<(ps ++ [bb]).length:=by rw [List.length_append,AL.out];simp;omega
   obtain⟨b,o,rfl,hb,uv,hu,hus,hcl⟩:=HI.out W (aB.refl _ _) j hjl;rw [dK] at hb;have hy5:=HPS.out _ (List.getElem_mem DK);have hyi:=HIS.out _ (List.getElem_mem hjl);have hye:(ps ++ [bb])[j]=ps[j]:=List.getElem_append_left DK;have jX:=Z_ (show ve (ps.take (j+1))=ve (ps.take j) ++ [⟨ps[j].tx,ps[j].nm,1⟩] by unfold ve;rw [List.take_succ_eq_append_getElem DK,List.map_append];rfl);rw [hye] at hu hyi;generalize ps[j]=y at hu hy5 hyi jX;obtain⟨k1,t1,m1,l1⟩:=y;obtain rfl:k1=5:=hy5;rw [dY] at hu;obtain⟨a1,c1,rfl,-,-,hts,-⟩:=hu;have Je:=Z_ hts;have Jb:=Z_ HX.out;obtain⟨Lr,PU,xJ,GZ,NK,QF,QG,NL⟩:=Jb.out;have hE:=xJ.ext;have q0:wr.cell? ⟨b,o+j*4,none⟩=some (.int .i64 5):=(hE.cell (p:=⟨b,o+j*4,none⟩) hb id).trans ((aC _ W).2 _ _ ((hcl 0 (by decide)).trans rfl))
   have q1:wr.cell? ⟨b,o+j*4+1,none⟩=some (.string t1):=(hE.cell (p:=⟨b,o+j*4+1,none⟩) hb id).trans ((aC _ W).2 _ _ ((hcl 1 (by decide)).trans rfl));have q2:wr.cell? ⟨b,o+j*4+2,none⟩=some (.int .i64 m1):=(hE.cell (p:=⟨b,o+j*4+2,none⟩) hb id).trans ((aC _ W).2 _ _ ((hcl 2 (by decide)).trans rfl));have q3:wr.cell? ⟨b,o+j*4+3,none⟩=some (.slice a1 l1.length c1):=(hE.cell (p:=⟨b,o+j*4+3,none⟩) hb id).trans ((aC _ W).2 _ _ ((hcl 3 (by decide)).trans rfl));have HK:=Z_ (aJ.made wr #[.int .i64 5,.string t1,.int .i64 m1,.slice a1 l1.length c1] 24);obtain⟨Kb,hKb⟩:∃ Kb,wr.heap.size=Kb:=⟨_,rfl⟩;rw [hKb] at HK;have hPK:P+1≤Kb:=by rw [←hKb];exact xJ.hu
   have QH:=Z_ (xJ.extend ((aB.refl (fun _=>False) wr).alloc (.cells #[.int .i64 5,.string t1,.int .i64 m1,.slice a1 l1.length c1] 24)));have ER:=Z_ (NK.alloc (.cells #[.int .i64 5,.string t1,.int .i64 m1,.slice a1 l1.length c1] 24));have Wi:=Z_ (QF.alloc (.cells #[.int .i64 5,.string t1,.int .i64 m1,.slice a1 l1.length c1] 24));have Np:=Z_ (QG.alloc (.cells #[.int .i64 5,.string t1,.int .i64 m1,.slice a1 l1.length c1] 24));have HZ:=Z_ NL;have XV:=Z_ GZ;have hOW:∀ i,Lr.ownBlock=some i→i<Kb:=fun i e=>by rw [←hKb];exact(bG xJ.loc i e).2
   have HOW:=Z_ hOW;clear xJ NK QF QG NL GZ hOW hE hts hcl hus hyi hye HX;go_upto_region 8 with (fail)
   try rw [hKb]
   generalize wr.alloc (.cells #[.int .i64 5,.string t1,.int .i64 m1,.slice a1 l1.length c1] 24)=u5 at *;clear q0 q1 q2 q3 hKb;go_wp2_with fail
   refine(next_any QH.out.c (by omega) (by omega)).mono ?_
   rintro e w2 ⟨rfl,hC2,hB2⟩;have ab4:=Z_ (QH.out.p_ hC2 hB2);have QE:=Z_ (ER.out.aU hC2 (by have:=HZ.out;omega));have HQ6:=Z_ (Wi.out.aU hC2 (by have:=HZ.out;omega));have XA:=Z_ (Np.out.then hC2);have HK6:=Z_ (HK.out.aU hC2 (by have:=HZ.out;omega));clear hC2 hB2 QH ER Wi Np HK;have hkc:=HK6.out.cell;go_wp2_with fail
   have ab5:(ve (ps.take j)).length≤100:=by simp [ve];omega
   refine(G0 ab4.out XV.out ab5 t1 Je.out m1).mono ?_
   rintro e w3 ⟨vl7,pc7,rfl,QI,ab6,ab7,-⟩;have F7:=Z_ (BX.call ab4.out QE.out HQ6.out XA.out HZ.out QI ab6 ab7);clear QI ab6 ab7 ab5;go_wp2_with fail
   go_roundw
   case rel=>exact⟨j+1,by omega,by go_num,by rw [jX.out];have:=F7;rw [show ((p:Nat):Int)+1+((j+1:Nat):Int)=(p:Int)+1+(j:Int)+1 by omega];exact this⟩
   case measure=>simp [intOf];omega
  ·obtain rfl:j=n:=by omega
   have hjd:decide ((j:Int)<(j:Int))=false:=by simp
   have hjl:j<(ps ++ [bb]).length:=by rw [List.length_append,AL.out];simp
   obtain⟨b,o,rfl,hb,uv,hu,hus,hcl⟩:=HI.out W (aB.refl _ _) j hjl;rw [dK] at hb;have hyi:=HIS.out _ (List.getElem_mem hjl);have hye:(ps ++ [bb])[j]=bb:=by have h:=AL.out;subst h;simp
   rw [hye] at hu hyi;obtain⟨q1,hq1⟩:∃ q1:Nat,p+1+j=q1:=⟨_,rfl⟩;have oU:=Z_ (show BX W ua wr C Mo D K P Nb E (ve ps) ((q1:Nat):Int) eF fB dc pr #[.int .i64 4,.string t,.int .i64 m,.slice (some ⟨b,o,none⟩) (j+1) cc] #[.string pr.name,.bool pb,.slice pa pr.params.length yJ,.int .i64 pr.writes,.bool gv,.int .i64 pr.given] from by have h:=HX.out;rw [List.take_of_length_le (by rw [AL.out];exact Nat.le_refl _),show ((p:Nat):Int)+1+(j:Int)=((q1:Nat):Int) by omega] at h;exact h)
   have hq2:q1+dL bb=p+dL (.mk 4 t m (ps ++ [bb])):=by
    have h1:∀ l:List Nd,(∀ y∈l,y.kd=5)→(∀ y∈l,fC y)→gm (l ++ [bb])=l.length+dL bb:=fun l=>by
     induction l with
     | nil=>intro _ _;simp [gm]
     | cons z r ih=>
      intro h5 hi;obtain⟨k9,t9,m9,l9⟩:=z;obtain rfl:k9=5:=h5 _ (List.mem_cons_self ..);have hf:=(hi _ (List.mem_cons_self ..)).form;rw [List.cons_append];simp only [gm,List.length_cons];rw [ih (fun y hy=>h5 y (List.mem_cons_of_mem _ hy)) (fun y hy=>hi y (List.mem_cons_of_mem _ hy))];cases hf
      simp only [dL,gm];omega
    have h2:=h1 ps HPS.out (fun y hy=>HIS.out y (List.mem_append_left _ hy));simp only [dL];rw [h2,AL.out];omega
   have uM:=Z_ hq2;rw [←hq2] at qI;obtain⟨RY,XH⟩:∃ RY,C0 E pr pr.writes true (ve ps) 1 bb q1=RY:=⟨_,rfl⟩;have hT2:=HT.out;rw [UC] at hT2;simp only [Nd.kids,List.dropLast_concat,List.getLastD_concat,AL.out,hq1,XH] at hT2;have HT2:=Z_ hT2;have ZB:=Z_ XH;have hb6:=QE.out;obtain⟨k1,t1,m1,l1⟩:=bb;obtain rfl:k1=6:=hb6;have HBI:=Z_ hyi;have HU:=Z_ hu;rw [dY] at hu;obtain⟨a1,c1,rfl,hk1,hk2,-,hk4⟩:=hu;obtain⟨N1,hN1⟩:∃ N1,l1.length=N1:=⟨_,rfl⟩;rw [hN1] at hk1 hcl HU;have Gh:=Z_ hN1;have HI1:=Z_ (fun (ua:World) (hE:Ext W ua)=>hk4.keeps (aN hE fun i _ e=>e.elim) fun b o y=>jd (aN hE fun i _ e=>e.elim) b o y);obtain⟨Lr,PU,xJ,GZ,NK,QF,QG,NL⟩:=oU.out;have hE:=xJ.ext;have q0:wr.cell? ⟨b,o+j*4,none⟩=some (.int .i64 6):=(hE.cell (p:=⟨b,o+j*4,none⟩) hb id).trans ((aC _ W).2 _ _ ((hcl 0 (by decide)).trans rfl))
   have q01:wr.cell? ⟨b,o+j*4+1,none⟩=some (.string t1):=(hE.cell (p:=⟨b,o+j*4+1,none⟩) hb id).trans ((aC _ W).2 _ _ ((hcl 1 (by decide)).trans rfl));have q02:wr.cell? ⟨b,o+j*4+2,none⟩=some (.int .i64 m1):=(hE.cell (p:=⟨b,o+j*4+2,none⟩) hb id).trans ((aC _ W).2 _ _ ((hcl 2 (by decide)).trans rfl));have q03:wr.cell? ⟨b,o+j*4+3,none⟩=some (.slice a1 N1 c1):=(hE.cell (p:=⟨b,o+j*4+3,none⟩) hb id).trans ((aC _ W).2 _ _ ((hcl 3 (by decide)).trans rfl));obtain⟨Kb,hKb⟩:∃ Kb,wr.heap.size=Kb:=⟨_,rfl⟩;have HK:=Z_ (show aJ (wr.alloc (.cells #[.int .i64 6,.string t1,.int .i64 m1,.slice a1 N1 c1] 24)) Kb #[.int .i64 6,.string t1,.int .i64 m1,.slice a1 N1 c1] 24 by rw [←hKb];exact aJ.made wr _ _);have hPK:P+1≤Kb:=by rw [←hKb];exact xJ.hu
   have QH:=Z_ (xJ.extend ((aB.refl (fun _=>False) wr).alloc (.cells #[.int .i64 6,.string t1,.int .i64 m1,.slice a1 N1 c1] 24)));have ER:=Z_ (NK.alloc (.cells #[.int .i64 6,.string t1,.int .i64 m1,.slice a1 N1 c1] 24));have Wi:=Z_ (QF.alloc (.cells #[.int .i64 6,.string t1,.int .i64 m1,.slice a1 N1 c1] 24));have Np:=Z_ (QG.alloc (.cells #[.int .i64 6,.string t1,.int .i64 m1,.slice a1 N1 c1] 24));have HZ:=Z_ NL;have XV:=Z_ GZ;have HOW:=Z_ (show ∀ i,Lr.ownBlock=some i→i<Kb from fun i e=>by rw [←hKb];exact(bG xJ.loc i e).2);have hji:(j:Int)<(j:Int)+1:=by omega
   have hbc:=NK.cell;clear xJ GZ NK QF QG NL hE hcl hus hyi hye HX oU hT2 XH hk4 hN1 hq1 hq2;go_upto_region 12 with (fail)
   try rw [hKb]
   generalize wr.alloc (.cells #[.int .i64 6,.string t1,.int .i64 m1,.slice a1 N1 c1] 24)=u5 at *;clear q0 q01 q02 q03 hKb hbc;refine aj [8,11] (fun i v _=>v=([.pointer (some ⟨C,0,none⟩),.pointer (some ⟨C,0,none⟩),.pointer (some ⟨C,5,none⟩),.pointer (some ⟨P,0,none⟩),.pointer (some ⟨C,0,none⟩),.agg #[.int .i64 6,.string t1,.int .i64 m1,.slice a1 N1 c1],.pointer (some ⟨Nb+1,3,none⟩),.int .i64 pr.writes,undef,.pointer (some ⟨P,0,none⟩),.pointer (some ⟨P,6,none⟩),undef]:List Value).getD i undef) (NJ (fun u9=>CS W u9 C Mo D K P (P+1) E Lr (ve ps) 1 ((q1:Nat):Int) eF fB dc PU∧aJ u9 Nb #[.int .i64 4,.string t,.int .i64 m,.slice (some ⟨b,o,none⟩) (j+1) cc] 24∧aJ u9 (Nb+1) #[.string pr.name,.bool pb,.slice pa pr.params.length yJ,.int .i64 pr.writes,.bool gv,.int .i64 pr.given] 68∧aB (fun i=>i=C) ua u9∧aJ u9 Kb #[.int .i64 6,.string t1,.int .i64 m1,.slice a1 N1 c1] 24) (fun u9=>BX W ua u9 C Mo D K P Nb E (ve ps) ((q1+dL (.mk 6 t1 m1 l1):Nat):Int) eF fB dc pr #[.int .i64 4,.string t,.int .i64 m,.slice (some ⟨b,o,none⟩) (j+1) cc] #[.string pr.name,.bool pb,.slice pa pr.params.length yJ,.int .i64 pr.writes,.bool gv,.int .i64 pr.given]∧aJ u9 Kb #[.int .i64 6,.string t1,.int .i64 m1,.slice a1 N1 c1] 24) RY) (fun _ _=>True) (frame:=?JH) (fun x=>?wX) bH.mixed (by kernel_rfl) (by kernel_rfl) (fun _ _ _ _ h _=>h) ?JI ?JJ ?wY
   case wX=>
    simp only [chain.aS,chain.fill,chain.bT,chain.bC,oV,oW,oZ,o5,o6,o7,o8,o_,pq];exact rfl
   case JI=>exact⟨QH.out.extend (aB.refl _ _).drew,ER.out.drew,Wi.out.drew,Np.out.drew,HK.out.drew⟩
   case JJ=>
    iterate 12 (refine ak.cons (fun x vs u hF hm hb hd K' hK'=>?_) ?_;rotate_left)
    exact ak.nil
    ·have HF:=Z_ hF;clear hd hm hb hF;go_simp;exact hK'.out _ _ _ (rfl) trivial ⟨rfl,HF.out⟩
    ·have y0:x 53=.pointer (some ⟨C,0,none⟩):=(D_ hd 0 :);have HF:=Z_ hF;clear hd hm hb hF;go_simp;exact hK'.out _ _ _ (by simp only [y0];rfl) trivial ⟨rfl,HF.out⟩
    ·have y0:x 54=.pointer (some ⟨C,0,none⟩):=(D_ hd 1 :);have HF:=Z_ hF;clear hd hm hb hF;go_simp;exact hK'.out _ _ _ (by simp only [y0];rfl) trivial ⟨rfl,HF.out⟩
    ·have hq:=NJ.any hF (Q:=u.cell? ⟨C,5,none⟩=some (.pointer (some ⟨P,0,none⟩))) (fun h=>(h.1.c.cell 5).trans rfl) (fun h=>h.1.ptr);have y0:x 55=.pointer (some ⟨C,5,none⟩):=(D_ hd 2 :);have HF:=Z_ hF;clear hd hm hb hF;go_simp;exact hK'.out _ _ _ (by simp only [y0];rfl) trivial ⟨rfl,HF.out⟩
    ·have HF:=Z_ hF;clear hd hm hb hF;go_simp;exact hK'.out _ _ _ (rfl) trivial ⟨rfl,HF.out⟩
    ·have hq:=NJ.any hF (Q:=∀ o9,u.cell? ⟨Kb,o9,none⟩=#[.int .i64 6,.string t1,.int .i64 m1,.slice a1 N1 c1][o9]?) (fun h=>h.2.2.2.2.cell) (fun h=>h.2.cell);have HF:=Z_ hF;clear hd hm hb hF;go_simp;exact hK'.out _ _ _ (rfl) trivial ⟨rfl,HF.out⟩
    ·have HF:=Z_ hF;clear hd hm hb hF;go_simp;exact hK'.out _ _ _ (rfl) trivial ⟨rfl,HF.out⟩
    ·have hq:=NJ.any hF (Q:=∀ o9,u.cell? ⟨Nb+1,o9,none⟩=#[.string pr.name,.bool pb,.slice pa pr.params.length yJ,.int .i64 pr.writes,.bool gv,.int .i64 pr.given][o9]?) (fun h=>h.2.2.1.cell) (fun h=>h.1.qb);have y0:x 59=.pointer (some ⟨Nb+1,3,none⟩):=(D_ hd 6 :);have HF:=Z_ hF;clear hd hm hb hF;go_simp;exact hK'.out _ _ _ (by simp only [y0];rfl) trivial ⟨rfl,HF.out⟩
    ·obtain rfl:=pR hm;have y0:x 57=.pointer (some ⟨C,0,none⟩):=(D_ hd 4 :);have y1:x 58=.agg #[.int .i64 6,.string t1,.int .i64 m1,.slice a1 N1 c1]:=(D_ hd 5 :);have y2:x 60=.int .i64 pr.writes:=(D_ hd 7 :);have hF1:=(show _∧_ from hF);have hsb:=qI.out;have hnp:=AL.out;have oU:=Z_ (Qz hmv _ HBI.out rfl _ true pr.writes u q1 Lr (ve ps) 1 PU hF1.1 XV.out HU.out (by omega) (by simp only [ve,List.length_map];omega) (by decide) (by omega));have HF:=Z_ hF1;clear hd hm hb hF hF1 hsb hnp;go_simp;refine oU.out.mono ?_
     rintro e u2 ⟨jP,nU⟩;obtain⟨QJ,QK,QL,ES,ar1⟩:=HF.out;have hz:=HZ.out;rw [ZB.out] at nU;cases RY with
     | bad c9 p9=>
      obtain rfl:e=_:=nU;have Ag:=(ES.weak (S':=BS C Mo eF) fun _ _ e=>.inl e).trans jP (fun i hi e=>.inl (BX.far QJ hz.2.1 hz.2.2 i (by omega) e));go_wp2_with fail
      exact⟨rfl,Ag,by rw [←HT2.out];rfl⟩
     | ok t6=>
      obtain⟨g6,uD,uF,rfl,Wl,Js,Jt,zQ,Ns,Nu⟩:=nU;have ar2:=BX.call QJ QK QL ES hz jP Js Jt;have EF:=ar1.aU jP (fun e=>by
      rcases e with e|e|e
      ·omega
      ·omega
      ·have:=HOW.out _ e;omega)
      exact hK'.out _ _ _ (by simp only [y0,y1,y2];rfl) trivial ⟨t6,g6,rfl,rfl,ar2,EF⟩
    ·have y0:x 56=.pointer (some ⟨P,0,none⟩):=(D_ hd 3 :);have HF:=Z_ hF;clear hd hm hb hF;go_simp;exact hK'.out _ _ _ (by simp only [y0];rfl) trivial ⟨rfl,HF.out⟩
    ·have y0:x 62=.pointer (some ⟨P,0,none⟩):=(D_ hd 9 :);have HF:=Z_ hF;clear hd hm hb hF;go_simp;exact hK'.out _ _ _ (by simp only [y0];rfl) trivial ⟨rfl,HF.out⟩
    ·obtain⟨v0,rfl⟩:=rE hm
     have y0:x 63=.pointer (some ⟨P,6,none⟩):=(D_ hd 10 :);have y1:x 61=v0:=((D_ hd 8) 61 (by kernel_rfl) :);obtain⟨t6,g6,rY,rfl,hF1,hF2⟩:=hF;obtain⟨p91,p92,p93,p94,p95,hpb⟩:=hF1.p;have hq:=hpb.cell;have Df:=hpb.frozen;have kN:=hpb.lt;have HF:=Z_ hF1;have HF2:=Z_ hF2;have HRT:=Z_ rY;clear hd hm hb hF1 hF2 rY hpb;go_simp;exact hK'.out _ _ undef (by simp only [y0,y1];rfl) trivial ⟨t6,g6,HRT.out,rfl,HF.out.XT g6,HF2.out.setOther (p:=⟨P,6,none⟩) (by show Kb≠P;omega) _⟩
   case wY=>
    intro x9 wJ w9 hl hF hk9;obtain⟨v0,v1,rfl⟩:=Ll hl
    obtain⟨t6,g6,rY,rfl,hF1,hF2⟩:=hF;rw [rY] at HT2;have HT3:=Z_ HT2.out;simp only [Rz.bind] at HT3;have PS:=Z_ hF1;have HK9:=Z_ hF2;clear hk9 hl hF1 hF2 rY HT2;have hkc:=HK9.out.cell;have hqc:=PS.out.qb;go_upto_region 14 with (fail)
    obtain⟨MM,UE⟩:∃ MM,(pr.gives && !(XU l1))=MM:=⟨_,rfl⟩;rw [UE] at HT3;have ZI:=Z_ (show aB (BS C Mo eF) ua w9 from by obtain⟨_,_,_,_,_,_,h,_⟩:=PS.out;exact h.weak fun _ _ e=>.inl e);have HXT:=Z_ (show Ext W w9 from by obtain⟨_,_,h,_⟩:=PS.out;exact h.ext);go_cut [] (fun w'=>w'=w9∧MM=false)
    case first=>
     cases gv with
     | false=>
      go_wp2_with fail
      refine(fO 2 (p:Nat) _).mono ?_
      rintro e w9 ⟨rfl,rfl⟩;go_wp2_with fail
      go_meet
      exact⟨rfl,by rw [←UE,ZC.out];rfl⟩
     | true=>
      rw [ZC.out] at UE;rcases Nat.eq_zero_or_pos N1 with h0|h0
      ·subst h0
       have hl0:=List.eq_nil_of_length_eq_zero Gh.out;subst hl0;obtain rfl:MM=true:=UE.symm;have HT4:=Z_ (show (.bad 2 p:Rz Tr)=T from HT3.out);go_wp2_with fail
       refine(iq 2 (p:Nat) _).mono ?_
       rintro e w9 ⟨rfl,rfl⟩;go_wp2_with fail
       exact⟨rfl,ZI.out,by rw [←HT4.out]⟩
      ·have ab8:N1-1<l1.length:=by rw [Gh.out];omega
       obtain⟨b1,o1,rfl,hb1,uv1,hu1,az_,ar4⟩:=HI1.out W (aB.refl _ _) (N1-1) ab8;rw [dK] at hb1;have hgl:l1.getLast? = some l1[N1-1]:=by rw [List.getLast?_eq_getElem?,Gh.out,List.getElem?_eq_getElem ab8]
       unfold XU at UE;rw [hgl] at UE;generalize l1[N1-1]=y1 at hu1 UE;obtain⟨k2,t2,m2,l2⟩:=y1;rw [dY] at hu1;obtain⟨a2,c2,rfl,-⟩:=hu1;have q9:w9.cell? ⟨b1,o1+(N1-1)*4,none⟩=some (.int .i64 k2):=(HXT.out.cell (p:=⟨b1,o1+(N1-1)*4,none⟩) hb1 id).trans ((aC _ W).2 _ _ ((ar4 0 (by decide)).trans rfl));obtain⟨n1,rfl⟩:∃ n1,N1=n1+1:=⟨N1-1,by omega⟩;rw [Nat.add_sub_cancel] at q9;have hpo:(0:Int)<(n1:Int)+1:=Int.lt_add_one_of_le (Int.natCast_nonneg n1);have hpd:decide ((0:Int)<(n1:Int)+1)=true:=decide_eq_true hpo;have a00:wrap64 (n1:Int)=(n1:Int):=by have h1:=tV l1;have h2:=qI.out;have h4:=Gh.out;simp only [dL] at h2;exact IntWalk.wrap64_in _ (by omega)
       have hin:(n1:Int)<(n1:Int)+1:=by omega
       by_cases h14:k2=14
       ·subst h14
        obtain rfl:MM=false:=UE.symm;go_wp2_with fail
        refine(fO 2 (p:Nat) _).mono ?_
        rintro e w9 ⟨rfl,rfl⟩;go_wp2_with fail
        go_meet
        first|exact⟨rfl,rfl⟩|exact⟨rfl,trivial⟩
       ·have a01:(k2 == 14)=false:=by simpa using h14
        obtain rfl:MM=true:=by rw [←UE];simp [Nd.kd,h14]
        have HT4:=Z_ (show (.bad 2 p:Rz Tr)=T from HT3.out);go_wp2_with fail
        refine(iq 2 (p:Nat) _).mono ?_
        rintro e w9 ⟨rfl,rfl⟩;go_wp2_with fail
        exact⟨rfl,ZI.out,by rw [←HT4.out]⟩
    case rest=>
     clear hqc hkc;obtain⟨hw,rfl⟩:=hcut;subst hw;have HT4:=Z_ (show (.ok t6:Rz Tr)=T from HT3.out);have JK:=Z_ (show Grow 1 218 GX Bm wc eF bs from by obtain⟨_,_,_,_,_,_,h,_⟩:=PS.out;exact EP.out.row.aU lF h fun i e=>by have:=EP.out.cB;omega);obtain⟨vl8,pc8,QJ,ab9,QK,QL,ES,UF⟩:=PS.out;obtain⟨ra,rc,ab_,hr1,hr2⟩:=je JK.out;obtain⟨nb,XW⟩:∃ nb,bs.length=nb:=⟨_,rfl⟩;rw [XW] at ab_ hr1;have a02:=Z_ XW;have UG:=Z_ (fun i e=>bG JK.out i e);subst ab_;have XX:=Z_ QJ;have HH:=Z_ (And.intro QK (And.intro QL (And.intro ES UF)));have HPW:=Z_ ab9;clear QJ ab9 QK QL ES UF XW;go_upto_region 15 with (fail)
     refine aj [15,16,19] (fun i v _=>v=([.pointer (some ⟨C,0,none⟩),.pointer (some ⟨C,0,none⟩),.pointer (some ⟨C,0,none⟩),.pointer (some ⟨Mo,0,none⟩),.pointer (some ⟨C,0,none⟩),.pointer (some ⟨C,0,none⟩),.pointer (some ⟨C,0,none⟩),.pointer (some ⟨Mo,0,none⟩),.pointer (some ⟨Mo,0,none⟩),.pointer (some ⟨Mo,1,none⟩),.slice ra nb rc,.pointer (some ⟨C,0,none⟩),.pointer (some ⟨C,0,none⟩),.pointer (some ⟨C,5,none⟩),.pointer (some ⟨P,0,none⟩),undef,undef,.pointer (some ⟨Mo,0,none⟩),.pointer (some ⟨Mo,1,none⟩),undef]:List Value).getD i undef) (fF.gV (fun u9 rN r lq=>MB wc u9 C Mo D K P Bm vl8 ((q1+dL (.mk 6 t1 m1 l1):Nat):Int) (.slice ra nb rc) fB rN r lq) (fun _=>false) GX Bm 218 (.slice ra nb rc) bs (pr,t6) (.pointer (some ⟨P,0,none⟩))) (fun _ _=>True) (frame:=?ar5) (fun x=>?XY) bH.mixed (by kernel_rfl) (by kernel_rfl) (fun _ _ _ _ h _=>h) ?h0p ?stp ?XZ
     case XY=>
      simp only [chain.aS,chain.fill,chain.bT,chain.bC,oV,oW,oZ,o5,o6,o7,o8,o_,pq];exact rfl
     case h0p=>exact⟨⟨(aB.refl _ _).drew,XX.out.c.drew,XX.out.mo.drew,gZ (rM JK.out LG (fun _=>false)) lF (aB.refl (fun _=>False) wc).drew (fun i e=>e.elim) (fun i e e2=>e2.elim) (fun i e=>by cases e),fun i e=>.inl e⟩,P,rfl⟩
     case stp=>
      iterate 20 (refine ak.cons (fun x vs u hF hm hb hd K' hK'=>?_) ?_;rotate_left)
      exact ak.nil
      ·have HF:=Z_ hF;clear hd hm hb hF;go_simp;exact hK'.out _ _ _ (rfl) trivial ⟨rfl,HF.out⟩
      ·have y0:x 86=.pointer (some ⟨C,0,none⟩):=(D_ hd 0 :);have HF:=Z_ hF;clear hd hm hb hF;go_simp;exact hK'.out _ _ _ (by simp only [y0];rfl) trivial ⟨rfl,HF.out⟩
      ·have y0:x 87=.pointer (some ⟨C,0,none⟩):=(D_ hd 1 :);have HF:=Z_ hF;clear hd hm hb hF;go_simp;exact hK'.out _ _ _ (by simp only [y0];rfl) trivial ⟨rfl,HF.out⟩
      ·obtain⟨_,_,_,aY⟩:=fF.gV.any hF;have hq:=aY.2.1.cell;unfold wK at hq;clear aY;have y0:x 88=.pointer (some ⟨C,0,none⟩):=(D_ hd 2 :);have HF:=Z_ hF;clear hd hm hb hF;go_simp;exact hK'.out _ _ _ (by simp only [y0];rfl) trivial ⟨rfl,HF.out⟩
      ·have HF:=Z_ hF;clear hd hm hb hF;go_simp;exact hK'.out _ _ _ (rfl) trivial ⟨rfl,HF.out⟩
      ·have y0:x 90=.pointer (some ⟨C,0,none⟩):=(D_ hd 4 :);have HF:=Z_ hF;clear hd hm hb hF;go_simp;exact hK'.out _ _ _ (by simp only [y0];rfl) trivial ⟨rfl,HF.out⟩
      ·have y0:x 91=.pointer (some ⟨C,0,none⟩):=(D_ hd 5 :);have HF:=Z_ hF;clear hd hm hb hF;go_simp;exact hK'.out _ _ _ (by simp only [y0];rfl) trivial ⟨rfl,HF.out⟩
      ·obtain⟨_,_,_,aY⟩:=fF.gV.any hF;have hq:=aY.2.1.cell;unfold wK at hq;clear aY;have y0:x 92=.pointer (some ⟨C,0,none⟩):=(D_ hd 6 :);have HF:=Z_ hF;clear hd hm hb hF;go_simp;exact hK'.out _ _ _ (by simp only [y0];rfl) trivial ⟨rfl,HF.out⟩
      ·have y0:x 93=.pointer (some ⟨Mo,0,none⟩):=(D_ hd 7 :);have HF:=Z_ hF;clear hd hm hb hF;go_simp;exact hK'.out _ _ _ (by simp only [y0];rfl) trivial ⟨rfl,HF.out⟩
      ·have y0:x 94=.pointer (some ⟨Mo,0,none⟩):=(D_ hd 8 :);have HF:=Z_ hF;clear hd hm hb hF;go_simp;exact hK'.out _ _ _ (by simp only [y0];rfl) trivial ⟨rfl,HF.out⟩
      ·have aY:=fF.gV.B hF (by have:=hb 1 _ (by decide) rfl (by kernel_rfl);omega);have hq:=aY.2.2.1.cell;clear aY;have y0:x 95=.pointer (some ⟨Mo,1,none⟩):=(D_ hd 9 :);have HF:=Z_ hF;clear hd hm hb hF;go_simp;exact hK'.out _ _ _ (by simp only [y0];rfl) trivial ⟨rfl,HF.out⟩
      ·have HF:=Z_ hF;clear hd hm hb hF;go_simp;exact hK'.out _ _ _ (rfl) trivial ⟨rfl,HF.out⟩
      ·have y0:x 97=.pointer (some ⟨C,0,none⟩):=(D_ hd 11 :);have HF:=Z_ hF;clear hd hm hb hF;go_simp;exact hK'.out _ _ _ (by simp only [y0];rfl) trivial ⟨rfl,HF.out⟩
      ·have y0:x 98=.pointer (some ⟨C,0,none⟩):=(D_ hd 12 :);have HF:=Z_ hF;clear hd hm hb hF;go_simp;exact hK'.out _ _ _ (by simp only [y0];rfl) trivial ⟨rfl,HF.out⟩
      ·obtain⟨_,_,_,aY⟩:=fF.gV.any hF;have hq:=aY.2.1.cell;unfold wK at hq;clear aY;have y0:x 99=.pointer (some ⟨C,5,none⟩):=(D_ hd 13 :);have HF:=Z_ hF;clear hd hm hb hF;go_simp;exact hK'.out _ _ _ (by simp only [y0];rfl) trivial ⟨rfl,HF.out⟩
      ·obtain rfl:=pR hm;have y0:x 100=.pointer (some ⟨P,0,none⟩):=(D_ hd 14 :);have aY:=hF.1;have HG:=Z_ (fF.dm (aY.2.2.2.1));have HF:=Z_ hF;clear hd hm hb hF aY;go_simp;exact hK'.out _ _ _ (by simp only [y0];rfl) trivial ((fF.iE chk.lF (fun u' hE=>⟨HF.out.1.1.ext hE,HF.out.1.2.1.ext hE,HF.out.1.2.2.1.ext hE,gZ HF.out.1.2.2.2.1 lF hE (fun i e=>e.elim) (fun i e e2=>e2.elim) (fun i e=>by cases e),HF.out.1.2.2.2.2⟩) (fun i e=>(HG.out i e).2) HF.out rfl))
      ·obtain⟨v0,rfl⟩:=rE hm
       have y0:x 96=.slice ra nb rc:=(D_ hd 10 :);have y1:x 101=v0:=((D_ hd 15) 101 (by kernel_rfl) :);have hF2:=hF;obtain⟨aY,hxx,gg,rfl,hgb,hgr⟩:=hF2;obtain⟨us,hu1,ho,hu3⟩:=(aY.2.2.2.1).ex;obtain⟨mg,mD,hz0,hz1,hz2⟩:=bH.bD fF.QA;have hbz:Bm≤u.heap.size:=by have h1:=EP.out.hu;have h2:=aY.1.size;have h3:=HH.out.2.2.2;have h4:=HH.out.2.2.1.size;omega
       refine wp_append_lies _ _ _ 123 rfl (Bm) 218 mg (.pointer none) 1 8 Tryz.underlying123 mD hz0 hz1 hz2 rfl (by decide) (.slice ra nb rc) bs.length (us.flatMap fun u=>u.cells.toList) y0 ho ⟨gg,0,none⟩ 1 1 [.pointer (some ⟨P,0,none⟩)] y1 rfl ?_ (by intro z_ qL;simp only [List.mem_cons,List.not_mem_nil,or_false] at qL;rcases qL with rfl<;>rfl) (by decide) (by unfold maxLen;have:=HBS.out;omega) (by have:=HBS.out;omega) hbz u.heap.size rfl ?_
       ·intro j q hj;have e:(⟨gg,0,none⟩:Addr).add j=⟨gg,j,none⟩:=(by unfold Addr.add;split<;>simp_all);rw [e,hgb.cell];simpa [Value.cells] using hj
       ·intro g9 c9 w9 kQ kM mF yK
        exact hK'.out _ _ _ rfl trivial ((fF.gW chk.lF hF hu1 hu3 rfl (fun r yQ hG hC ha=>⟨aY.1.trans hC (fun i hi e=>.inr e),aY.2.1.aU hC (fun e=>by have:=UG.out _ e;have:=EP.out.cB;omega),aY.2.2.1.aU hC (fun e=>by have:=UG.out _ e;have:=EP.out.mB;omega),hG,fun i e=>by rcases ha i e with h9|h9;exact .inl h9;exact .inr (by have:=aY.1.size;omega)⟩) kQ kM mF))
      ·have y0:x 89=.pointer (some ⟨Mo,0,none⟩):=(D_ hd 3 :);have HF:=Z_ hF;clear hd hm hb hF;go_simp;exact hK'.out _ _ _ (by simp only [y0];rfl) trivial ⟨rfl,HF.out⟩
      ·have y0:x 103=.pointer (some ⟨Mo,0,none⟩):=(D_ hd 17 :);have HF:=Z_ hF;clear hd hm hb hF;go_simp;exact hK'.out _ _ _ (by simp only [y0];rfl) trivial ⟨rfl,HF.out⟩
      ·obtain⟨v0,v1,rfl⟩:=yP hm
       have y0:x 104=.pointer (some ⟨Mo,1,none⟩):=(D_ hd 18 :);have y1:x 102=v1:=((D_ hd 16) 102 (by kernel_rfl) :);have hF2:=hF;obtain⟨aY,gg,cc,rfl⟩:=hF2;have hq:=aY.2.2.1.cell;have Df:=aY.2.2.1.frozen;have kN:=aY.2.2.1.lt;have HF:=Z_ hF;clear hd hm hb hF aY;go_simp;exact hK'.out _ _ undef (by simp only [y0,y1];rfl) trivial ((fF.iF (z:=undef) HF.out (fun h=>⟨h.1.setCell (p:=⟨Mo,1,none⟩) (fun _=>.inl rfl) _,h.2.1.setOther (p:=⟨Mo,1,none⟩) (by have:=EP.out.cM;exact this) _,h.2.2.1.set 1 _,gZ h.2.2.2.1 lF (aA (S:=Mo) (aB.refl _ _) 1 _) (fun i e=>.inl (by have:=EP.out.mB;omega)) (fun i e e2=>by have:=dm h.2.2.2.1 i e;have:=EP.out.mB;omega) (fun i e=>by cases e),h.2.2.2.2⟩)))
     case XZ=>
      intro x9 wJ w9 hl hF hk9;obtain⟨v0,v1,v2,rfl⟩:=UH hl
      clear hk9 hl;obtain⟨jP,Ag,G5,kM,kQ⟩:=(show MB _ _ _ _ _ _ _ _ _ _ _ _ _ _ _ from hF);have oU:=Z_ (And.intro jP (And.intro Ag (And.intro G5 (And.intro kM kQ))));clear jP Ag G5 kM kQ hF;go_wp2_with fail
      go_end0
      obtain⟨jP,Ag,G5,kM,kQ⟩:=oU.out;obtain⟨QK,QL,ES,UF⟩:=HH.out;have hms:=EP.out;refine⟨(ES.weak (S':=BS C Mo (.slice ra nb rc)) fun _ _ e=>.inl e).then (jP.weak fun i _ e=>by rcases e with e|e;exact .inr (.inl e);exact .inr (.inr e)),?_⟩
      rw [←HT4.out];refine⟨rfl,vl8,.int .i64 1,.pointer (some ⟨P,0,none⟩),v1,?_,fun i e=>by rcases kQ i e with h|h;exact .inl h;exact .inr (Nat.le_trans ES.size h)⟩
      have hcs:=XX.out;obtain⟨n9,hn9,hk9⟩:=hcs.k;have h1:=hms.hC;have h2:=hms.hM;have h3:=hms.hK;have h4:=hms.cB;have h5:=hms.mB;have h6:=hms.kB;have h7:=hcs.ext.size;have h8:=ES.size;have h9:=hms.hu;have h10:=hms.ext.size;have h11:=jP.size
      have hq9:q1+dL (.mk 6 t1 m1 l1)=p+dL (.mk 4 t m (ps ++ [.mk 6 t1 m1 l1])):=uM.out;rw [hq9] at Ag;have hoW:=UG.out;exact⟨hcs.ext.trans jP (fun i hi e=>by rcases e with e|e;omega;have:=hoW _ e;omega),Ag,G5,hms.d,hms.own,⟨n9,hn9,hk9.aU jP (fun e=>by rcases e with e|e;exact hms.mK e.symm;have:=hoW _ e;omega)⟩,ET kM,h1,h2,h3,h4,h5,h6,hms.cM,hms.cK,hms.mK,by omega⟩
end chk
end Go.Proofs.YtpcihajmcejliacGreatDoor
namespace Go.Proofs.YtpcihajmcejliacGreatDoor
open Go.RowKit
namespace UI
open bH fF uY
theorem Bd (v:Value) (w:World):(Instr.typeAssert (.iface 214 v) 20 214 true).run Tryz.prog w=.ok (.tuple #[v,.bool true]) w:=by kernel_rfl
def vg (R F:Nat) (c p:Int) (w:World) (e:Exit) (a:Act) (w':World):Prop:=e=.normal∧a.defers=[]∧aJ w' R #[.pointer none] 119∧aJ w' F #[.int .i64 c,.int .i64 p] 27∧aB (fun i=>i=R∨i=F) w w'
def qi (R F B:Nat) (c p:Int) (w0:World) (cs fs:Array Value):List Value→World→Prop
 | [],u=>aJ u R cs 119∧aJ u F fs 27∧aB (fun i=>i=R∨i=F) w0 u∧aJ u B #[.int .i64 c,.int .i64 p] 214
 | [_],u=>aJ u R #[.pointer none] 119∧aJ u F fs 27∧aB (fun i=>i=R∨i=F) w0 u∧aJ u B #[.int .i64 c,.int .i64 p] 214
 | _,u=>aJ u R #[.pointer none] 119∧aJ u F #[.int .i64 c,.int .i64 p] 27∧aB (fun i=>i=R∨i=F) w0 u∧aJ u B #[.int .i64 c,.int .i64 p] 214
theorem qi.b {R F B:Nat} {c p:Int} {w0 u:World} {cs fs:Array Value} {vs:List Value} (h:qi R F B c p w0 cs fs vs u):aJ u B #[.int .i64 c,.int .i64 p] 214:=by
 match vs,h with
 | [],h=>exact h.2.2.2
 | [_],h=>exact h.2.2.2
 | _::_::_,h=>exact h.2.2.2
set_option maxRecDepth 100000 in
set_option maxHeartbeats 4000000 in
theorem mL (R F:Nat) (c0 f0 f1:Value) (c p:Int) (w:World) (hR:aJ w R #[c0] 119) (hF:aJ w F #[f0,f1] 27) (hne:R≠F) :
  CallsD Tryz.prog 107 #[.pointer (some ⟨R,0,none⟩),.pointer (some ⟨F,0,none⟩)] (.panicking (chk.rB c p)) w fun e u' w'=>
   e=.returned (.tuple #[])∧u'=.panicking [{ v:=.iface 214 (.agg #[.int .i64 c,.int .i64 p]),recovered:=true }]∧aJ w' R #[.pointer none] 119∧aJ w' F #[.int .i64 c,.int .i64 p] 27∧aB (fun i=>i=R∨i=F) w w':=by
 have hta:=Bd;have JL:=hR.lt;have JM:=hF.lt;obtain⟨B,hB⟩:∃ B,w.heap.size=B:=⟨_,rfl⟩;have hB0:=aJ.made w #[.int .i64 c,.int .i64 p] 214;rw [hB] at hB0 JL JM;have hR0:=hR.alloc (.cells #[.int .i64 c,.int .i64 p] 214);have oO:=hF.alloc (.cells #[.int .i64 c,.int .i64 p] 214);have uQ:=(aB.refl (fun i=>i=R∨i=F) w).alloc (.cells #[.int .i64 c,.int .i64 p] 214);refine callsD_of_wpS Tryz.func107 rfl fun c₀ cs hu=>?_
 unfold chk.rB at hu;apply wpS_seq
 apply wpS_region
 simp [wpOpsS,go_sem,recoverD,hu,Tryz.ntmps107,Exit.thenS]
 simp only [Array.replicate,List.replicate,List.append_toArray,List.setIfInBounds_toArray,List.set_cons_zero,List.set_cons_succ,List.cons_append,List.nil_append];refine wpS_of_wp (Code.wp_mono (Q:=vg R F c p w) ?_ ?_)
 ·rintro e a w1 ⟨rfl,hd,h1,h2,h3⟩
  exact⟨hd,_,rfl,_,results_none rfl _ _ _,rfl,rfl,h1,h2,h3⟩
 clear hu;have HR0:=Z_ hR0;have vP:=Z_ oO;have HX0:=Z_ uQ;have HB0:=Z_ hB0;clear hR hF hR0 oO uQ hB0;unfold vg;go_upto_region 5 with (fail)
 try rw [hB]
 generalize w.alloc (.cells #[.int .i64 c,.int .i64 p] 214)=u0 at *;refine aj [2,3] (fun i v _=>v=([.pointer (some ⟨B,0,none⟩),.agg #[.int .i64 c,.int .i64 p],undef,undef]:List Value).getD i undef) (qi R F B c p w #[c0] #[f0,f1]) (fun _ _=>True) (frame:=?UJ) (fun x=>?zV) bH.mixed (by kernel_rfl) (by kernel_rfl) (fun _ _ _ _ h _=>h) ?h0c ?UK ?EU
 case zV=>
  simp only [chain.aS,chain.fill,chain.bT,chain.bC,oV,oW,oZ,o5,o6,o7,o8,o_,pq];exact rfl
 case h0c=>exact⟨HR0.out.drew,vP.out.drew,HX0.out.drew,HB0.out.drew⟩
 case UK=>
  iterate 4 (refine ak.cons (fun x vs u hF hm hb hd K' hK'=>?_) ?_;rotate_left)
  exact ak.nil
  ·have HF:=Z_ hF;clear hd hm hb hF;go_simp;exact hK'.out _ _ _ (rfl) trivial ⟨rfl,HF.out⟩
  ·have hc:=hF.b.cell;have y0:x 16=.pointer (some ⟨B,0,none⟩):=(D_ hd 0 :);have HF:=Z_ hF;clear hd hm hb hF;go_simp;exact hK'.out _ _ _ (by simp only [y0];rfl) trivial ⟨rfl,HF.out⟩
  ·obtain rfl:=pR hm;obtain⟨g1,g2,g3,g4⟩:=(show _∧_ from hF);have hc:=g1.cell;have hf:=g1.frozen;have hl:=g1.lt;have HG:=Z_ (And.intro g1 (And.intro g2 (And.intro g3 g4)));clear hd hm hb hF g1 g2 g3 g4;go_simp;obtain⟨g1,g2,g3,g4⟩:=HG.out;exact hK'.out _ _ undef rfl trivial ⟨g1.set 0 _,g2.setOther (p:=⟨R,0,none⟩) (by show F≠R;omega) _,g3.setCell (p:=⟨R,0,none⟩) (fun _=>.inl rfl) _,g4.setOther (p:=⟨R,0,none⟩) (by show B≠R;omega) _⟩
  ·have y0:x 17=.agg #[.int .i64 c,.int .i64 p]:=(D_ hd 1 :);obtain⟨v0,rfl⟩:=rE hm
   obtain⟨g1,g2,g3,g4⟩:=(show _∧_ from hF);have hc:=g2.cell;have hf:=g2.frozen;have hl:=g2.lt;have HG:=Z_ (And.intro g1 (And.intro g2 (And.intro g3 g4)));clear hd hm hb hF g1 g2 g3 g4;go_simp;obtain⟨g1,g2,g3,g4⟩:=HG.out;exact hK'.out _ _ undef (by simp only [y0];rfl) trivial ⟨(g1.setOther (p:=⟨F,0,none⟩) hne _).setOther (p:=⟨F,1,none⟩) hne _,(g2.set 0 _).set 1 _,(g3.setCell (p:=⟨F,0,none⟩) (fun _=>.inr rfl) _).setCell (p:=⟨F,1,none⟩) (fun _=>.inr rfl) _,(g4.setOther (p:=⟨F,0,none⟩) (by show B≠F;omega) _).setOther (p:=⟨F,1,none⟩) (by show B≠F;omega) _⟩
 case EU=>
  intro x vs w9 hl hF hk;obtain⟨v0,v1,rfl⟩:=Ll hl
  obtain⟨g1,g2,g3,g4⟩:=(show _∧_ from hF);clear hk hl;have HG:=Z_ (And.intro g1 (And.intro g2 g3));clear hF g1 g2 g3 g4;go_wp2_with (fail)
  exact HG.out
theorem yT (R F:Nat) (w:World) :
  CallsD Tryz.prog 107 #[.pointer (some ⟨R,0,none⟩),.pointer (some ⟨F,0,none⟩)] .returning w fun e u' w'=>e=.returned (.tuple #[])∧u'=.returning∧w'=w:=by
 refine callsD_of_wpS Tryz.func107 rfl fun c₀ cs hu=>?_
 apply wpS_seq
 apply wpS_region
 simp [wpOpsS,go_sem,recoverD,hu,Tryz.ntmps107,Exit.thenS]
 simp only [Array.replicate,List.replicate,List.append_toArray,List.setIfInBounds_toArray,List.set_cons_zero,List.set_cons_succ,List.cons_append,List.nil_append];refine wpS_of_wp (Code.wp_mono (Q:=fun e a' w'=>e=.normal∧a'.defers=[]∧w'=w) ?_ ?_)
 ·rintro e a w1 ⟨rfl,hd,rfl⟩
  exact⟨hd,.returning,by cases c₀;simp_all,_,results_none rfl _ _ _,rfl,rfl,rfl⟩
 clear hu;go_wp2_with (fail)
end UI
end Go.Proofs.YtpcihajmcejliacGreatDoor
