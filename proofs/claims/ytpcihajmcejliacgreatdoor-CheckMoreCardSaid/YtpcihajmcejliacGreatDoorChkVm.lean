/- How the checker's trees and its state lie in memory. Look's recover, and what a function with two results in cells tells. The walks of the checker's small functions: next, must, flows, index, face, and num.Join. The walk of the checker's face: whose a name is. The walk of the checker's variable: what a name is. -/
import Derived.Defers
import Derived.Recover
import Derived.Test.YtpcihajmcejliacGreatDoorShelf
import Derived.IntWalk
import Derived.Test.YtpcihajmcejliacGreatDoorOfSm
import Derived.Test.YtpcihajmcejliacGreatDoorOfEm
import Derived.Test.YtpcihajmcejliacGreatDoorSynKm
import Derived.Test.YtpcihajmcejliacGreatDoorNamem
namespace Go.Proofs.YtpcihajmcejliacGreatDoor
open Go.RowKit
theorem Tr.kZ (k m:Int) (l:List Tr) (r:mG) (b c:Int) (j:Nat) (h:j<l.length):SizeOf.sizeOf l[j]<SizeOf.sizeOf (Tr.mk k m l r b c):=by
 have h1:=List.sizeOf_lt_of_mem (List.getElem_mem h);have h2:SizeOf.sizeOf (Tr.mk k m l r b c)=1+SizeOf.sizeOf k+SizeOf.sizeOf m+SizeOf.sizeOf l+SizeOf.sizeOf r+SizeOf.sizeOf b+SizeOf.sizeOf c:=by simp
 omega
theorem PN {P:Tr→Prop} (h:∀ k m l r b c,(∀ x∈l,P x)→P (.mk k m l r b c)):∀ x,P x:=by
 have:∀ n x,SizeOf.sizeOf x≤n→P x:=by
  intro n;induction n with
  | zero=>
   intro x hx;cases x;simp at hx
  | succ n ih=>
   intro x hx;cases x with
   | mk k m l r b c=>
    refine h k m l r b c fun y hy=>ih y ?_
    obtain⟨j,hj,rfl⟩:=List.getElem_of_mem hy;have:=Tr.kZ k m l r b c j hj;omega
 exact fun x=>this _ x (Nat.le_refl _)
def jh (k m:Int) (kids:Value) (r:mG) (p0 p1 p2 p3 p4 p5:Value) (lab ctx:Int):Array Value:=
 #[.int .i64 k,.int .i64 m,kids,.int .i64 r.loc,.string r.modn,.string r.name,.int .i64 r.label,.int .i64 r.size,p0,p1,p2,p3,p4,p5,.int .i64 lab,.int .i64 ctx]
def uM (r:mG):Prop:=r.modn.size≤maxLen∧r.name.size≤maxLen
def qH (w:World):Tr→Value→Prop
 | .mk k m l r lab ctx,v=>uM r∧∃ g a c p0 p1 p2 p3 p4 p5,v=.pointer (some ⟨g,0,none⟩)∧g<w.heap.size∧(∀ i,i<16→w.cell? ⟨g,i,none⟩=(jh k m (.slice a l.length c) r p0 p1 p2 p3 p4 p5 lab ctx)[i]?)∧l.length≤c∧c≤maxLen∧
   ∀ (j:Nat) (h:j<l.length),∃ b o u,a=some ⟨b,o,none⟩∧b<w.heap.size∧w.cell? ⟨b,o+j,none⟩=some u∧qH w l[j] u
 termination_by x=>SizeOf.sizeOf x
 decreasing_by exact Tr.kZ k m l r lab ctx j h
def zS (w:World) (b o:Nat) (x:Tr):Prop:=∃ u,w.cell? ⟨b,o,none⟩=some u∧qH w x u
theorem uC (w:World) (k m:Int) (l:List Tr) (r:mG) (lab ctx:Int) (v:Value):qH w (.mk k m l r lab ctx) v↔uM r∧∃ g a c p0 p1 p2 p3 p4 p5,v=.pointer (some ⟨g,0,none⟩)∧g<w.heap.size∧(∀ i,i<16→w.cell? ⟨g,i,none⟩=(jh k m (.slice a l.length c) r p0 p1 p2 p3 p4 p5 lab ctx)[i]?)∧l.length≤c∧c≤maxLen∧bW 1 zS w a l:=by
 rw [qH]
 have e:(∀ (j:Nat) (h:j<l.length),∀ a:Option Addr,(∃ b o u,a=some ⟨b,o,none⟩∧b<w.heap.size∧w.cell? ⟨b,o+j,none⟩=some u∧qH w l[j] u)↔∃ b o,a=some ⟨b,o,none⟩∧b<w.heap.size∧zS w b (o+j*1) l[j]):=by
  intro j h a;rw [Nat.mul_one];constructor
  ·rintro ⟨b,o,u,h1,h2,h3,h4⟩;exact⟨b,o,h1,h2,u,h3,h4⟩
  ·rintro ⟨b,o,h1,h2,u,h3,h4⟩;exact⟨b,o,u,h1,h2,h3,h4⟩
 constructor
 ·rintro ⟨h0,g,a,c,p0,p1,p2,p3,p4,p5,h1,h2,h3,h4,h5,h6⟩
  exact⟨h0,g,a,c,p0,p1,p2,p3,p4,p5,h1,h2,h3,h4,h5,fun j hj=>(e j hj a).1 (h6 j hj)⟩
 ·rintro ⟨h0,g,a,c,p0,p1,p2,p3,p4,p5,h1,h2,h3,h4,h5,h6⟩
  exact⟨h0,g,a,c,p0,p1,p2,p3,p4,p5,h1,h2,h3,h4,h5,fun j hj=>(e j hj a).2 (h6 j hj)⟩
theorem gm {w w':World} (hk:bZ w w'):∀ x v,qH w x v→qH w' x v:=by
 refine PN fun k m l r b c ih v h=>?_
 rw [uC] at h ⊢;obtain⟨h0,g,a,c,p0,p1,p2,p3,p4,p5,h1,h2,h3,h4,h5,h6⟩:=h;refine⟨h0,g,a,c,p0,p1,p2,p3,p4,p5,h1,Nat.lt_of_lt_of_le h2 hk.1,fun i hi=>?_,h4,h5,fun j hj=>?_⟩
 ·have h7:=h3 i hi
  have e:∀ (cs:Array Value),cs.size=16→w.cell? ⟨g,i,none⟩=cs[i]?→w'.cell? ⟨g,i,none⟩=cs[i]?:=fun cs hs h=>by
   rw [Array.getElem?_eq_getElem (by omega)] at h ⊢;exact hk.2 _ _ h
  exact e _ rfl h7
 ·obtain⟨b,o,ea,hb,u,hu,ht⟩:=h6 j hj
  exact⟨b,o,ea,Nat.lt_of_lt_of_le hb hk.1,u,hk.2 _ _ hu,ih _ (List.getElem_mem hj) _ ht⟩
def zH (x:Tr) (v:Value) (w:World):Prop:=qH w x v∧∃ g,v=.pointer (some ⟨g,0,none⟩)
namespace chk
theorem b_ (x:Tr) (u:Value) (w w':World) (hk:bZ w w') (h:zH x u w):zH x u w':=⟨gm hk _ _ h.1,h.2⟩
theorem qZ (w:World) (b o:Nat) (x:Tr) (u:Value) (h:zH x u w) (_:u.cells.size=1) (hc:∀ i,i<1→w.cell? ⟨b,o+i,none⟩=u.cells[i]?):zS w b o x:=by
 obtain⟨h1,g,rfl⟩:=h;exact⟨_,(hc 0 (by decide)).trans rfl,h1⟩
theorem jT {w w':World} (hk:bZ w w') (b o:Nat) (x:Tr) (h:zS w b o x):zS w' b o x:=by
 obtain⟨u,h1,h2⟩:=h;exact⟨u,hk.2 _ _ h1,gm hk _ _ h2⟩
def wX (x:Loc) (v:Value) (_:World):Prop:=v=.agg #[.string x.name,.int .i64 x.label,.int .i64 x.deep]∧x.name.size≤10000
def Ik (w:World) (b o:Nat) (x:Loc):Prop:=w.cell? ⟨b,o,none⟩=some (.string x.name)∧w.cell? ⟨b,o+1,none⟩=some (.int .i64 x.label)∧w.cell? ⟨b,o+2,none⟩=some (.int .i64 x.deep)∧x.name.size≤10000
theorem gJ (x:Loc) (u:Value) (w w':World) (_:bZ w w') (h:wX x u w):wX x u w':=h
theorem D9 (x:Loc) (u:Value) (w w':World) (h:wX x u w):wX x u w':=h
theorem Ar (w:World) (b o:Nat) (x:Loc) (u:Value) (h:wX x u w) (_:u.cells.size=3) (hc:∀ i,i<3→w.cell? ⟨b,o+i,none⟩=u.cells[i]?):Ik w b o x:=by
 obtain⟨rfl,h2⟩:=h;exact⟨(hc 0 (by decide)).trans rfl,(hc 1 (by decide)).trans rfl,(hc 2 (by decide)).trans rfl,h2⟩
theorem lU {w w':World} (hk:bZ w w') (b o:Nat) (x:Loc) (h:Ik w b o x):Ik w' b o x:=⟨hk.2 _ _ h.1,hk.2 _ _ h.2.1,hk.2 _ _ h.2.2.1,h.2.2.2⟩
def mJ (c p:Int):List PanicEntry:=[{ v:=.iface 214 (.agg #[.int .i64 c,.int .i64 p]),recovered:=false }]
def qw (Mo K:Nat) (vl:Value) (deep at_:Int) (P:Nat):Array Value:=#[.pointer (some ⟨Mo,0,none⟩),.map (some K),vl,.int .i64 deep,.int .i64 at_,.pointer (some ⟨P,0,none⟩),.pointer none]
structure CS (W u:World) (C Mo D K P B:Nat) (E:dH) (vl:Value) (L:List Loc) (deep at_:Int) (cH dB:Value) (dc pc:Array Value):Prop where
 ext:Ext W u
 c:aH u C (qw Mo K vl deep at_ P) 221
 mo:aH u Mo #[.pointer (some ⟨D,0,none⟩),cH,dB] 125
 d:aH W D dc 128
 own:∃ v0 v1 v2 d3 d4 d5 d6 d7 d8,dc=#[v0,v1,v2,d3,d4,d5,d6,d7,d8]∧eC W E.own (.agg #[v0,v1,v2])
 k:∃ n,n≤E.known.length∧n_.ni W u K n E.known
 p:aH u P pc 297
 loc:Grow 3 340 wX B u vl L
 hC:W.heap.size≤C
 hM:W.heap.size≤Mo
 hK:W.heap.size≤K
 hP:W.heap.size≤P
 cB:C<B
 mB:Mo<B
 kB:K<B
 pB:P<B
 cM:C≠Mo
 cK:C≠K
 cP:C≠P
 mK:Mo≠K
 mP:Mo≠P
 kP:K≠P
 hu:B≤u.heap.size
open bn dn
theorem CS.extend {W u u':World} {C Mo D K P B:Nat} {E:dH} {vl:Value} {L:List Loc} {deep at_:Int} {cH dB:Value} {dc pc:Array Value} (h:CS W u C Mo D K P B E vl L deep at_ cH dB dc pc) (hE:Ext u u'):CS W u' C Mo D K P B E vl L deep at_ cH dB dc pc:=by
 obtain⟨n,hn,hk⟩:=h.k;exact⟨h.ext.ext hE,h.c.ext hE,h.mo.ext hE,h.d,h.own,⟨n,hn,hk.aO hE id⟩,h.p.ext hE,h.loc.aO gJ hE (fun _ e=>e.elim),h.hC,h.hM,h.hK,h.hP,h.cB,h.mB,h.kB,h.pB,h.cM,h.cK,h.cP,h.mK,h.mP,h.kP,Nat.le_trans h.hu hE.size⟩
theorem CS.kV {W u u':World} {C Mo D K P B:Nat} {E:dH} {vl:Value} {L:List Loc} {deep at_ deep' at':Int} {cH dB:Value} {dc pc:Array Value} (h:CS W u C Mo D K P B E vl L deep at_ cH dB dc pc) (hC:aB (fun i=>i=C) u u') (hc:aH u' C (qw Mo K vl deep' at' P) 221):CS W u' C Mo D K P B E vl L deep' at' cH dB dc pc:=by
 obtain⟨n,hn,hk⟩:=h.k;have h1:=h.hC;have h2:=h.cB;have h3:=h.cM;have h4:=h.cK;have h5:=h.cP
 exact⟨h.ext.trans hC (fun i hi e=>by omega),hc,h.mo.aO hC (fun e=>h3 e.symm),h.d,h.own,⟨n,hn,hk.aO hC (fun e=>h4 e.symm)⟩,h.p.aO hC (fun e=>h5 e.symm),h.loc.aO gJ hC (fun i e=>by omega),h1,h.hM,h.hK,h.hP,h2,h.mB,h.kB,h.pB,h3,h4,h5,h.mK,h.mP,h.kP,Nat.le_trans h.hu hC.size⟩
end chk
end Go.Proofs.YtpcihajmcejliacGreatDoor
namespace Go.Proofs.YtpcihajmcejliacGreatDoor
open Go.RowKit
theorem fM {P:Program} {fn:Func} {p q:Tmp} {ty Ea:TypeId} (h:fn.results=#[.cell p ty,.cell q Ea]) (tmps:Array Value) (w:World) {g g2:Nat} {T T2:TypeId} {Eb:Array Value} {d d2:TypeDesc} {v:Value}
  (hp:tmps.getD p undef=.pointer (some ⟨g,0,none⟩)) (hg:aH w g #[v] T) (hu:P.underlying ty=some d) (hd:(match d with|.struct _|.array _ _=>true|_=>false)=false)
  (hq:tmps.getD q undef=.pointer (some ⟨g2,0,none⟩)) (hg2:aH w g2 Eb T2) (hu2:P.underlying Ea=some d2) (hd2:(match d2 with|.struct _|.array _ _=>true|_=>false)=true) (hi2:(P.info? Ea).map (·.size)=some Eb.size) :
  (results fn tmps).run P w=.ok (.tuple #[v,.agg Eb]) w:=by
 have hp':tmps[p]?.getD undef=.pointer (some ⟨g,0,none⟩):=by simpa using hp
 have hq':tmps[q]?.getD undef=.pointer (some ⟨g2,0,none⟩):=by simpa using hq
 have hl:(loadVar ty ⟨g,0,none⟩).run P w=.ok v w:=by
  have hc:=hg.cell 0;simp only [List.getElem?_toArray,List.getElem?_cons_zero] at hc
  have hagg:(isAgg ty).run P w=.ok false w:=by
   unfold isAgg;rw [Sem.run_bind,run_underlying hu w];cases d<;>simp_all
  simp [loadVar,Sem.run_bind,hagg,hc]
 simp [results,h,hp',hq',asAddr,hl,run_loadVar_row w g2 T2 Ea Eb (0,0) d2 hg2 hu2 hd2 hi2]
namespace Rx
open bn dn oV
theorem uX (v:Value) (w:World):(Instr.typeAssert (.iface 225 v) 20 225 true).run Tryz.prog w=.ok (.tuple #[v,.bool true]) w:=by kernel_rfl
def oW (R F:Nat) (c p:Int) (w:World) (e:Exit) (a:Act) (w':World):Prop:=e=.normal∧a.defers=[]∧aH w' R #[.pointer none] 122∧aH w' F #[.int .i64 c,.int .i64 p] 27∧aB (fun i=>i=R∨i=F) w w'
def kX (R F B:Nat) (c p:Int) (w0:World) (cs fs:Array Value):List Value→World→Prop
 | [],u=>aH u R cs 122∧aH u F fs 27∧aB (fun i=>i=R∨i=F) w0 u∧aH u B #[.int .i64 c,.int .i64 p] 225
 | [_],u=>aH u R #[.pointer none] 122∧aH u F fs 27∧aB (fun i=>i=R∨i=F) w0 u∧aH u B #[.int .i64 c,.int .i64 p] 225
 | _,u=>aH u R #[.pointer none] 122∧aH u F #[.int .i64 c,.int .i64 p] 27∧aB (fun i=>i=R∨i=F) w0 u∧aH u B #[.int .i64 c,.int .i64 p] 225
theorem kX.b {R F B:Nat} {c p:Int} {w0 u:World} {cs fs:Array Value} {vs:List Value} (h:kX R F B c p w0 cs fs vs u):aH u B #[.int .i64 c,.int .i64 p] 225:=by
 match vs,h with
 | [],h=>exact h.2.2.2
 | [_],h=>exact h.2.2.2
 | _::_::_,h=>exact h.2.2.2
set_option maxRecDepth 100000 in
set_option maxHeartbeats 4000000 in
theorem jl (R F:Nat) (c0 f0 f1:Value) (c p:Int) (w:World) (hR:aH w R #[c0] 122) (hF:aH w F #[f0,f1] 27) (hne:R≠F) :
  CallsD Tryz.prog 111 #[.pointer (some ⟨R,0,none⟩),.pointer (some ⟨F,0,none⟩)] (.panicking (ve c p)) w fun e u' w'=>
   e=.returned (.tuple #[])∧u'=.panicking [{ v:=.iface 225 (.agg #[.int .i64 c,.int .i64 p]),recovered:=true }]∧aH w' R #[.pointer none] 122∧aH w' F #[.int .i64 c,.int .i64 p] 27∧aB (fun i=>i=R∨i=F) w w':=by
 have hta:=uX;have EW:=hR.lt;have EX:=hF.lt;obtain⟨B,hB⟩:∃ B,w.heap.size=B:=⟨_,rfl⟩;have hB0:=aH.made w #[.int .i64 c,.int .i64 p] 225;rw [hB] at hB0 EW EX;have hR0:=hR.alloc (.cells #[.int .i64 c,.int .i64 p] 225);have kY:=hF.alloc (.cells #[.int .i64 c,.int .i64 p] 225);have oH:=(aB.refl (fun i=>i=R∨i=F) w).alloc (.cells #[.int .i64 c,.int .i64 p] 225);refine callsD_of_wpS Tryz.func111 rfl fun c₀ cs hu=>?_
 unfold ve at hu;apply wpS_seq
 apply wpS_region
 simp [wpOpsS,go_sem,recoverD,hu,Tryz.ntmps111,Exit.thenS]
 simp only [Array.replicate,List.replicate,List.append_toArray,List.setIfInBounds_toArray,List.set_cons_zero,List.set_cons_succ,List.cons_append,List.nil_append];refine wpS_of_wp (Code.wp_mono (Q:=oW R F c p w) ?_ ?_)
 ·rintro e a w1 ⟨rfl,hd,h1,h2,h3⟩
  exact⟨hd,_,rfl,_,results_none rfl _ _ _,rfl,rfl,h1,h2,h3⟩
 clear hu;have HR0:=Z_ hR0;have pM:=Z_ kY;have HX0:=Z_ oH;have KW:=Z_ hB0;clear hR hF hR0 kY oH hB0;unfold oW;go_upto_region 5 with (fail)
 try rw [hB]
 generalize w.alloc (.cells #[.int .i64 c,.int .i64 p] 225)=u0 at *;refine ah [2,3] (fun i v _=>v=([.pointer (some ⟨B,0,none⟩),.agg #[.int .i64 c,.int .i64 p],undef,undef]:List Value).getD i undef) (kX R F B c p w #[c0] #[f0,f1]) (fun _ _=>True) (frame:=?KX) (fun x=>?uh) bn.mixed (by kernel_rfl) (by kernel_rfl) (fun _ _ _ _ h _=>h) ?h0c ?KY ?yN
 case uh=>
  simp only [chain.aK,chain.fill,chain.bf,chain.aW,jJ,jK,jL,jM,jO,jP,jQ,jR,jS];exact rfl
 case h0c=>exact⟨HR0.out.drew,pM.out.drew,HX0.out.drew,KW.out.drew⟩
 case KY=>
  iterate 4 (refine ai.cons (fun x vs u hF hm hb hd K' hK'=>?_) ?_;rotate_left)
  exact ai.nil
  ·have HF:=Z_ hF;clear hd hm hb hF;go_simp;exact hK'.out _ _ _ (rfl) trivial ⟨rfl,HF.out⟩
  ·have hc:=hF.b.cell;have y0:x 16=.pointer (some ⟨B,0,none⟩):=(D_ hd 0 :);have HF:=Z_ hF;clear hd hm hb hF;go_simp;exact hK'.out _ _ _ (by simp only [y0];rfl) trivial ⟨rfl,HF.out⟩
  ·obtain rfl:=kF hm;obtain⟨g1,g2,g3,g4⟩:=(show _∧_ from hF);have hc:=g1.cell;have hf:=g1.frozen;have hl:=g1.lt;have HG:=Z_ (And.intro g1 (And.intro g2 (And.intro g3 g4)));clear hd hm hb hF g1 g2 g3 g4;go_simp;obtain⟨g1,g2,g3,g4⟩:=HG.out;exact hK'.out _ _ undef rfl trivial ⟨g1.set 0 _,g2.setOther (p:=⟨R,0,none⟩) (by show F≠R;omega) _,g3.setCell (p:=⟨R,0,none⟩) (fun _=>.inl rfl) _,g4.setOther (p:=⟨R,0,none⟩) (by show B≠R;omega) _⟩
  ·have y0:x 17=.agg #[.int .i64 c,.int .i64 p]:=(D_ hd 1 :);obtain⟨v0,rfl⟩:=lK hm
   obtain⟨g1,g2,g3,g4⟩:=(show _∧_ from hF);have hc:=g2.cell;have hf:=g2.frozen;have hl:=g2.lt;have HG:=Z_ (And.intro g1 (And.intro g2 (And.intro g3 g4)));clear hd hm hb hF g1 g2 g3 g4;go_simp;obtain⟨g1,g2,g3,g4⟩:=HG.out;exact hK'.out _ _ undef (by simp only [y0];rfl) trivial ⟨(g1.setOther (p:=⟨F,0,none⟩) hne _).setOther (p:=⟨F,1,none⟩) hne _,(g2.set 0 _).set 1 _,(g3.setCell (p:=⟨F,0,none⟩) (fun _=>.inr rfl) _).setCell (p:=⟨F,1,none⟩) (fun _=>.inr rfl) _,(g4.setOther (p:=⟨F,0,none⟩) (by show B≠F;omega) _).setOther (p:=⟨F,1,none⟩) (by show B≠F;omega) _⟩
 case yN=>
  intro x vs w9 hl hF hk;obtain⟨v0,v1,rfl⟩:=CV hl
  obtain⟨g1,g2,g3,g4⟩:=(show _∧_ from hF);clear hk hl;have HG:=Z_ (And.intro g1 (And.intro g2 g3));clear hF g1 g2 g3 g4;go_wp2_with (fail)
  exact HG.out
theorem sH (R F:Nat) (w:World) :
  CallsD Tryz.prog 111 #[.pointer (some ⟨R,0,none⟩),.pointer (some ⟨F,0,none⟩)] .returning w fun e u' w'=>e=.returned (.tuple #[])∧u'=.returning∧w'=w:=by
 refine callsD_of_wpS Tryz.func111 rfl fun c₀ cs hu=>?_
 apply wpS_seq
 apply wpS_region
 simp [wpOpsS,go_sem,recoverD,hu,Tryz.ntmps111,Exit.thenS]
 simp only [Array.replicate,List.replicate,List.append_toArray,List.setIfInBounds_toArray,List.set_cons_zero,List.set_cons_succ,List.cons_append,List.nil_append];refine wpS_of_wp (Code.wp_mono (Q:=fun e a' w'=>e=.normal∧a'.defers=[]∧w'=w) ?_ ?_)
 ·rintro e a w1 ⟨rfl,hd,rfl⟩
  exact⟨hd,.returning,by cases c₀;simp_all,_,results_none rfl _ _ _,rfl,rfl,rfl⟩
 clear hu;go_wp2_with (fail)
end Rx
end Go.Proofs.YtpcihajmcejliacGreatDoor
namespace Go.Proofs.YtpcihajmcejliacGreatDoor
open Go.RowKit
namespace chk
open bn dn
theorem uZ (a b:Int) (w:World):Calls Tryz.prog 281 #[.int .i64 a,.int .i64 b] w fun e w'=>e=.returned (.int .i64 (iM a b))∧w'=w:=by
 by_cases ha:a=0
 ·subst ha
  by_cases hb:b=0
  ·subst hb
   go_enter Tryz.func281,Tryz.ntmps281
   go_wp2
   go_ret
   exact⟨by simp [iM],rfl⟩
  ·go_enter Tryz.func281,Tryz.ntmps281
   go_wp2
   go_ret
   exact⟨by simp [iM,hb],rfl⟩
 ·go_enter Tryz.func281,Tryz.ntmps281
  go_wp2
  go_ret
  exact⟨by simp [iM,ha],rfl⟩
theorem dK (c p:Int) (w:World):Calls Tryz.prog 109 #[.bool true,.int .i64 c,.int .i64 p] w fun e w'=>e=.returned (.tuple #[])∧w'=w:=by
 go_enter Tryz.func109,Tryz.ntmps109
 go_wp2_with fail
 go_end0
 exact⟨rfl,rfl⟩
set_option maxRecDepth 100000 in
theorem eY (c p:Int) (w:World):Calls Tryz.prog 109 #[.bool false,.int .i64 c,.int .i64 p] w fun e w'=>e=.panicked (mJ c p)∧w'=w:=by
 go_enter Tryz.func109,Tryz.ntmps109
 go_wp2_with fail
 exact⟨rfl,rfl,rfl⟩
set_option maxRecDepth 100000 in
theorem next_any {u:World} {C Mo K P:Nat} {vl:Value} {deep at_:Int} (hc:aH u C (qw Mo K vl deep at_ P) 221) (h0:0≤at_) (h1:at_≤100000) :
  Calls Tryz.prog 108 #[.pointer (some ⟨C,0,none⟩)] u fun e u'=>e=.returned (.int .i64 at_)∧aB (fun i=>i=C) u u'∧aH u' C (qw Mo K vl deep (at_+1) P) 221:=by
 have HC:=Z_ hc;unfold qw at hc;have q:=hc.cell;have qf:=hc.frozen;have ql:=hc.lt;have hw:IntKind.i64.wrap (at_+1)=at_+1:=wrap_small _ (by omega) (by omega);have hw2:IntKind.i64.wrap (at_+1-1)=at_:=by rw [wrap_small _ (by omega) (by omega)];omega
 have hw3:at_+1-1=at_:=by omega
 clear hc;go_enter Tryz.func108,Tryz.ntmps108
 go_wp2_with fail
 go_ret
 exact⟨by first|rfl|(rw [hw3]),ak (aB.refl _ _) 4 _,HC.out.set 4 (.int .i64 (at_+1))⟩
theorem Fe {z:Int} {ls:List Int} {j:Nat} (h:j<ls.length):dQ z (ls.take (j+1))=(dQ z (ls.take j)&&(decide (z=1) || decide (ls[j]=0))):=by
 unfold dQ;rw [List.take_succ_eq_append_getElem h,List.all_append];simp
theorem Il {z:Int} {ls:List Int} {j:Nat} (h:j<ls.length) (hz:z≠1) (hl:ls[j]≠0):dQ z ls=false:=by
 unfold dQ;rw [List.all_eq_false];exact⟨ls[j],List.getElem_mem h,by simp [hz,hl]⟩
def ju (z:Int) (ls:List Int) (at_:Int) (w:World) (e:Ending) (w':World):Prop:=(dQ z ls=true→e=.returned (.tuple #[]))∧(dQ z ls=false→e=.panicked (mJ 7 at_))∧w'=w
set_option maxRecDepth 100000 in
set_option maxHeartbeats 2000000 in
theorem jo (at_ z:Int) (a:Option Addr) (c:Nat) (ls:List Int) (w:World) (hl:bW 1 gh w a ls) (hc:ls.length≤c) (hn:ls.length≤1000) :
  Calls Tryz.prog 283 #[.int .i64 at_,.int .i64 z,.slice a ls.length c] w (ju z ls at_ w):=by
 obtain⟨n,hn0⟩:∃ n,ls.length=n:=⟨_,rfl⟩;have HN:=Z_ hn0;rw [hn0] at hc hn ⊢;have HL:=Z_ hl;clear hl hn0;go_enter Tryz.func283,Tryz.ntmps283
 go_wp2_with fail
 go_loop [10] (fun i=>∃ k:Nat,k≤n∧i=.int .i64 k∧Hid (dQ z (ls.take k)=true)) (fun i=>n-(intOf i).toNat)
 case atStart=>exact⟨0,Nat.zero_le _,rfl,Z_ rfl⟩
 case round=>
  obtain⟨k,hk,rfl,HF⟩:=hrel;by_cases hlt:k<n
  ·have hlk:k<ls.length:=by rw [HN.out];exact hlt
   have hki:(k:Int)<(n:Int):=by omega
   have hkd:decide ((k:Int)<(n:Int))=true:=by simpa using hki
   obtain⟨b,o,rfl,hb,hin⟩:=HL.out k hlk;unfold gh at hin;rw [Nat.mul_one] at hin;have HS:=Z_ (Fe (z:=z) hlk);have kH:=Z_ (Il (z:=z) hlk);generalize ls[k]=x at hin HS kH;by_cases hz:z=1
   ·subst hz
    have HT:=Z_ (show dQ 1 (ls.take (k+1))=true by rw [HS.out,HF.out];rfl);go_wp2_with fail
    refine(dK 7 at_ _).mono ?_
    rintro e w2 ⟨rfl,rfl⟩;go_wp2_with fail
    go_round
    case rel=>exact⟨k+1,by omega,by go_num,HT⟩
    case measure=>simp [intOf];omega
   ·have hz1:(z == 1)=false:=by simpa using hz
    by_cases hx:x=0
    ·subst hx
     have HT:=Z_ (show dQ z (ls.take (k+1))=true by rw [HS.out,HF.out];simp);go_wp2_with fail
     refine(dK 7 at_ _).mono ?_
     rintro e w2 ⟨rfl,rfl⟩;go_wp2_with fail
     go_round
     case rel=>exact⟨k+1,by omega,by go_num,HT⟩
     case measure=>simp [intOf];omega
    ·have hx1:(x == 0)=false:=by simpa using hx
     have HT:=Z_ (kH.out hz hx);clear hx hz;go_wp2_with fail
     refine(eY 7 at_ _).mono ?_
     rintro e w2 ⟨rfl,rfl⟩;go_wp2_with fail
     exact⟨rfl,fun h=>absurd (HT.out.symm.trans h) (by decide),fun _=>rfl,rfl⟩
  ·obtain rfl:k=n:=by omega
   have hkd:decide ((k:Int)<(k:Int))=false:=by simp
   have HT:=Z_ (show dQ z ls=true by have h:=HF.out;rw [List.take_of_length_le (by rw [HN.out];exact Nat.le_refl _)] at h;exact h);go_wp2_with fail
   go_end0
   exact⟨fun _=>rfl,fun h=>absurd (HT.out.symm.trans h) (by decide),rfl⟩
theorem mZ {w:World} {x:Tr} {v:Value} (h:qH w x v):∃ g a c p0 p1 p2 p3 p4 p5,v=.pointer (some ⟨g,0,none⟩)∧g<w.heap.size∧(∀ i,i<16→w.cell? ⟨g,i,none⟩=(jh x.kd x.nm (.slice a x.kids.length c) x.ref p0 p1 p2 p3 p4 p5 x.lab x.ctx)[i]?)∧x.kids.length≤c∧c≤maxLen∧bW 1 zS w a x.kids:=by
 cases x
 rw [uC] at h;exact h.2
theorem yJ {l:List Tr} (h:0<l.length):l.headD default=l[0]:=by
 cases l with
 | nil=>cases h
 | cons y r=>rfl
set_option maxRecDepth 100000 in
theorem pR (x:Tr) (v:Value) (w:World) (h:qH w x v) (hk:x.kd=17→0<x.kids.length) :
  Calls Tryz.prog 284 #[v] w fun e w'=>e=.returned (.int .i64 (iD x))∧w'=w:=by
 obtain⟨g,a,c,p0,p1,p2,p3,p4,p5,rfl,hg,hc,hl1,hl2,hK⟩:=mZ h;have q0:w.cell? ⟨g,0,none⟩=some (.int .i64 x.kd):=hc 0 (by decide);have q2:w.cell? ⟨g,2,none⟩=some (.slice a x.kids.length c):=hc 2 (by decide);by_cases h17:x.kd=17
 ·have hpos:=hk h17
  obtain⟨b,o,rfl,hb,u,hu,ht⟩:=hK 0 hpos;obtain⟨g2,a2,c2,r0,r1,r2,r3,r4,r5,rfl,hg2,hc2,-,-,-⟩:=mZ ht;have Yf:w.cell? ⟨g2,14,none⟩=some (.int .i64 x.kids[0].lab):=hc2 14 (by decide);have HI:=Z_ (show iD x=x.kids[0].lab by unfold iD;rw [if_pos h17,yJ hpos]);rw [HI.out];generalize x.kids[0].lab=z at *;rw [h17] at q0;rw [Nat.zero_mul,Nat.add_zero] at hu;obtain⟨n,hn⟩:∃ n,x.kids.length=n:=⟨_,rfl⟩;rw [hn] at q2 hl1 hpos;have hpi:(0:Int)<(n:Int):=by omega
  clear hc hc2 HI h17 hk ht hK hn h;go_enter Tryz.func284,Tryz.ntmps284
  go_wp2_with fail
  go_ret
  exact⟨rfl,rfl⟩
 ·have ad_:(x.kd == 17)=false:=by simpa using h17
  have HI:=Z_ (show iD x=0 by unfold iD;rw [if_neg h17]);rw [HI.out];generalize x.kd=z at *;clear hc HI hk hK h h17;go_enter Tryz.func284,Tryz.ntmps284
  go_wp2_with fail
  go_ret
  exact⟨rfl,rfl⟩
end chk
end Go.Proofs.YtpcihajmcejliacGreatDoor
namespace Go.Proofs.YtpcihajmcejliacGreatDoor
open Go.RowKit
namespace chk
open bn dn
theorem tN {P:Program} {fn:Func} {p m q:Tmp} {ty:TypeId} (h:fn.results=#[.cell p ty,.tmp m,.tmp q]) (tmps:Array Value) (w:World) {g:Nat} {T:TypeId} {cs:Array Value} {d:TypeDesc}
  (hp:tmps.getD p undef=.pointer (some ⟨g,0,none⟩)) (hg:aH w g cs T) (hu:P.underlying ty=some d) (hd:(match d with|.struct _|.array _ _=>true|_=>false)=true) (hi:(P.info? ty).map (·.size)=some cs.size)
  {v v2:Value} (hm:tmps.getD m undef=v) (hq:tmps.getD q undef=v2) :
  (results fn tmps).run P w=.ok (.tuple #[.agg cs,v,v2]) w:=by
 have hp':tmps[p]?.getD undef=.pointer (some ⟨g,0,none⟩):=by simpa using hp
 have hm':tmps[m]?.getD undef=v:=by simpa using hm
 have hq':tmps[q]?.getD undef=v2:=by simpa using hq
 simp [results,h,hp',hm',hq',asAddr,run_loadVar_row w g T ty cs (0,0) d hg hu hd hi]
theorem vh {w:World} {x:aN} {v:Value} (h:eC w x v):∃ s a m i c d j,v=.agg #[.string s,.slice a m i,.slice c d j]:=by
 obtain⟨a,m,c,d,e,-⟩:=h;exact⟨_,_,_,_,_,_,_,e⟩
theorem Io (t:ByteArray) (ht:t.size≤10000):(⟨(Lib.cut t.data.toList [46]).1.toArray⟩:ByteArray).size≤maxLen:=by
 have h:(Lib.cut t.data.toList [46]).1.length≤t.data.toList.length:=by
  unfold Lib.cut;split<;>simp<;>omega
 have h2:t.data.toList.length=t.size:=by rw [Array.length_toList];rfl
 have h3:(⟨(Lib.cut t.data.toList [46]).1.toArray⟩:ByteArray).size=(Lib.cut t.data.toList [46]).1.length:=by show (Lib.cut t.data.toList [46]).1.toArray.size=_;simp
 rw [h3];unfold maxLen;omega
def Ip (W u:World) (Q:aN×ByteArray×Bool) (e:Ending) (u':World):Prop:=
 ∃ fv,e=.returned (.tuple #[fv,.string Q.2.1,.bool Q.2.2])∧eC W Q.1 fv∧Ext u u'
set_option maxRecDepth 100000 in
set_option maxHeartbeats 4000000 in
theorem zT {W u:World} {C Mo D K P B:Nat} {E:dH} {vl:Value} {L:List Loc} {deep at_:Int} {cH dB:Value} {dc pc:Array Value} (h:CS W u C Mo D K P B E vl L deep at_ cH dB dc pc) (hmv:dw W) (t:ByteArray) (ht:t.size≤10000) :
  Calls Tryz.prog 365 #[.pointer (some ⟨C,0,none⟩),.string t] u (Ip W u (j_ E t)):=by
 obtain⟨Q,hQ⟩:∃ Q,j_ E t=Q:=⟨_,rfl⟩;rw [hQ];unfold j_ at hQ;obtain⟨m,hm⟩:=hmv.ext h.ext;have TP:=Z_ (fun (w:World) (hE:Ext u w)=>Tryz.strings_Cut t ⟨#[46]⟩ m w (by omega) ((hE.cell (World.block_lt_of_cell? u _ hm) id).trans hm));obtain⟨CT,Y9⟩:∃ CT,Ff t=CT:=⟨_,rfl⟩;rw [Y9] at hQ;have HS:=Z_ (show (⟨(Lib.cut t.data.toList [46]).1.toArray⟩:ByteArray).size≤maxLen∧((⟨(Lib.cut t.data.toList [46]).1.toArray⟩:ByteArray),(⟨(Lib.cut t.data.toList [46]).2.1.toArray⟩:ByteArray),(Lib.cut t.data.toList [46]).2.2)=CT from⟨Io t ht,Y9⟩);clear Y9 hm;obtain⟨s1,s2,two⟩:=CT;simp only at hQ;have HQ:=Z_ hQ;clear hQ;have HR:=Z_ (aH.made u #[.string ⟨#[]⟩,.slice none 0 0,.slice none 0 0] 37);have hE0:=(aB.refl (fun _=>False) u).alloc (.cells #[.string ⟨#[]⟩,.slice none 0 0,.slice none 0 0] 37)
 have HC:=Z_ (h.extend hE0);have HE:=Z_ hE0;obtain⟨R,hR⟩:∃ R,u.heap.size=R:=⟨_,rfl⟩;rw [hR] at HR;have TQ:=Z_ hR;clear hE0 h;go_enter Tryz.func365,Tryz.ntmps365
 go_upto_region 1 with (fail)
 try rw [hR]
 generalize u.alloc (.cells #[.string ⟨#[]⟩,.slice none 0 0,.slice none 0 0] 37)=u1 at *;clear hR;go_wp2_with fail
 refine(TP.out _ HE.out).mono ?_
 rintro e w' ⟨rfl,nq,rfl⟩;have hcut:=HS.out.2;injection hcut with hc1 hc2
 injection hc2 with hc2 hc3
 have hs1:=HS.out.1;replace hc1:(⟨(Lib.cut t.data.toList (ByteArray.mk #[46]).data.toList).1.toArray⟩:ByteArray)=s1:=hc1;replace hc2:(⟨(Lib.cut t.data.toList (ByteArray.mk #[46]).data.toList).2.1.toArray⟩:ByteArray)=s2:=hc2;replace hc3:(Lib.cut t.data.toList (ByteArray.mk #[46]).data.toList).2.2=two:=hc3;rw [hc1,hc2,hc3];replace hs1:s1.size≤maxLen:=hc1▸hs1
 have HC2:=Z_ (HC.out.extend ((aB.refl _ _).drewN nq));have HR2:=Z_ (HR.out.drewN nq);have nY:=Z_ (HE.out.drewN nq);clear hc1 hc2 hc3 HS TP HC HR HE;generalize u1.drewN nq=u2 at *;have hrc:=HR2.out.cell;have hrf:=HR2.out.frozen;have hrl:=HR2.out.lt;cases two with
 | false=>
  have hq:=HQ.out;rw [if_pos rfl] at hq;have hcc:=HC2.out.c.cell;unfold qw at hcc;have hmc:=HC2.out.mo.cell;obtain⟨v0,v1,v2,d3,d4,d5,d6,d7,d8,hdc,hown⟩:=HC2.out.own;have hdb:=HC2.out.d.ext HC2.out.ext;rw [hdc] at hdb;have hdcell:=hdb.cell;obtain⟨s9,a9,m9,i9,c9,d9,j9,e9⟩:=vh hown;injection e9 with e9
  injection e9 with e9
  injection e9 with e0 e9
  injection e9 with e1 e9
  injection e9 with e2 e9
  subst e0 e1 e2;have HOWN:=Z_ hown;have oK:=Z_ hq;clear hown hq HQ e9 hdb hdc;go_wp2_with fail
  have nB:=ak (ak (ak (S:=R) (aB.refl _ u2) 0 (.string s9)) 1 (.slice a9 m9 i9)) 2 (.slice c9 d9 j9);have Iq:=Z_ (((HR2.out.set 0 (.string s9)).set 1 (.slice a9 m9 i9)).set 2 (.slice c9 d9 j9));refine bodyPost_ret (tN rfl _ _ rfl Iq.out Tryz.underlying37 rfl (by kernel_rfl) rfl rfl) rfl ?_
  rw [←oK.out];exact⟨_,rfl,HOWN.out,nY.out.trans nB (fun i hi e=>by have:=TQ.out;omega)⟩
 | true=>
  have hq:=HQ.out;rw [if_neg (by decide)] at hq;obtain⟨n,hn,hk⟩:=HC2.out.k;obtain⟨fv,hlook,hfa⟩:=hk.look hs1;obtain⟨G6,his⟩:∃ b,(bG E.known s1).isSome=b:=⟨_,rfl⟩;rw [his] at hlook hq;obtain⟨s9,a9,m9,i9,c9,d9,j9,rfl⟩:=vh hfa;have hcc:=HC2.out.c.cell;unfold qw at hcc;have HF:=Z_ hfa;have oK:=Z_ hq;clear hq HQ hfa hk hn his;have HT:=Z_ (HR2.out.alloc (.cells #[.string s9,.slice a9 m9 i9,.slice c9 d9 j9] 37));have HX:=Z_ (aH.made u2 #[.string s9,.slice a9 m9 i9,.slice c9 d9 j9] 37);have wR:=Z_ (nY.out.alloc (.cells #[.string s9,.slice a9 m9 i9,.slice c9 d9 j9] 37));go_upto_region 5 with (fail)
  obtain⟨X,hX⟩:∃ X,u2.heap.size=X:=⟨_,rfl⟩;rw [hX] at HX hrl
  try rw [hX]
  generalize u2.alloc (.cells #[.string s9,.slice a9 m9 i9,.slice c9 d9 j9] 37)=u3 at *;clear hX hrc hrf hcc hlook;have hrc:=HT.out.cell;have hrf:=HT.out.frozen;have hr3:=HT.out.lt;have mW:=HX.out.cell;go_wp2_with fail
  have nB:=ak (ak (ak (S:=R) (aB.refl _ u3) 0 (.string s9)) 1 (.slice a9 m9 i9)) 2 (.slice c9 d9 j9);have Iq:=Z_ (((HT.out.set 0 (.string s9)).set 1 (.slice a9 m9 i9)).set 2 (.slice c9 d9 j9));refine bodyPost_ret (tN rfl _ _ rfl Iq.out Tryz.underlying37 rfl (by kernel_rfl) rfl rfl) rfl ?_
  rw [←oK.out];exact⟨_,rfl,HF.out,wR.out.trans nB (fun i hi e=>by have:=TQ.out;omega)⟩
end chk
end Go.Proofs.YtpcihajmcejliacGreatDoor
namespace Go.Proofs.YtpcihajmcejliacGreatDoor
open Go.RowKit
namespace chk
open bn dn
def TA (r:mG):Value:=.agg #[.int .i64 r.loc,.string r.modn,.string r.name,.int .i64 r.label,.int .i64 r.size]
def Lj (u:World) (T:Rz mG) (e:Ending) (u':World):Prop:=Ext u u'∧match T with
 | .bad c p=>e=.panicked (mJ c (p:Nat))
 | .ok r=>e=.returned (TA r)∧uM r
theorem xw (t:ByteArray) (ht:t.size≤10000) {E:dH} {f:aN} {s:ByteArray} {b:Bool} (h:j_ E t=(f,s,b)):s.size≤maxLen:=by
 unfold j_ at h;split at h
 ·injection h with _ h
  injection h with h _
  subst h;unfold maxLen;omega
 ·injection h with _ h
  injection h with h _
  subst h
  have h1:(Lib.cut t.data.toList [46]).2.1.length≤t.data.toList.length:=by
   unfold Lib.cut;split<;>simp<;>omega
  have h2:t.data.toList.length=t.size:=by rw [Array.length_toList];rfl
  have h3:(Ff t).2.1.size=(Lib.cut t.data.toList [46]).2.1.length:=by show (Lib.cut t.data.toList [46]).2.1.toArray.size=_;simp
  rw [h3];unfold maxLen;omega
theorem Ir {L:List Loc} {t:ByteArray} {k:Nat} (h:k<L.length):um L t (k+1)=if L[k].name=t then some (k,L[k]) else um L t k:=by
 rw [um,List.getElem?_eq_getElem h]
theorem Iu {l:List fB} {s:ByteArray} {k:Nat} (h:k<l.length) (hk:xB (l.take k) s=none):(l[k].name=s→xB l s=some l[k])∧(l[k].name≠s→xB (l.take (k+1)) s=none):=by
 unfold xB at *;constructor
 ·intro e
  have h2:l=l.take k++l[k]::l.drop (k+1):=by rw [←List.drop_eq_getElem_cons h,List.take_append_drop]
  have h3:List.find? (fun v=>decide (v.name=s)) l=List.find? (fun v=>decide (v.name=s)) (l.take k++l[k]::l.drop (k+1)):=congrArg _ h2;rw [h3,List.find?_append,hk,List.find?_cons_of_pos (by simpa using e)];rfl
 ·intro e
  rw [List.take_succ_eq_append_getElem h,List.find?_append,hk];simp [e]
set_option maxRecDepth 100000 in
set_option maxHeartbeats 8000000 in
theorem yS {W u:World} {C Mo D K P B:Nat} {E:dH} {vl:Value} {L:List Loc} {deep at_:Int} {cH dB:Value} {dc pc:Array Value} (h:CS W u C Mo D K P B E vl L deep at_ cH dB dc pc) (hmv:dw W) (t:ByteArray) (ht:t.size≤10000) (hL:L.length≤1000) (p:Nat) :
  Calls Tryz.prog 337 #[.pointer (some ⟨C,0,none⟩),.string t,.int .i64 (p:Nat)] u (Lj u (uU E L t p)):=by
 obtain⟨T,hT⟩:∃ T,uU E L t p=T:=⟨_,rfl⟩;rw [hT];have HT:=Z_ hT;clear hT;have HR:=Z_ (aH.made u #[.int .i64 0,.string ⟨#[]⟩,.string ⟨#[]⟩,.int .i64 0,.int .i64 0] 343);have hE0:=(aB.refl (fun _=>False) u).alloc (.cells #[.int .i64 0,.string ⟨#[]⟩,.string ⟨#[]⟩,.int .i64 0,.int .i64 0] 343);have HC:=Z_ (h.extend hE0);have HE:=Z_ hE0;obtain⟨R,hR⟩:∃ R,u.heap.size=R:=⟨_,rfl⟩;rw [hR] at HR;have TQ:=Z_ hR;have tC:=Z_ hmv;obtain⟨a,c,hvl,hl1,hl2,hall⟩:=HC.out.loc.row gJ Ar;subst hvl;have Ap:=Z_ hall;obtain⟨n,hn⟩:∃ n,L.length=n:=⟨_,rfl⟩;rw [hn] at hl1 hL HC;have HN:=Z_ hn;clear hE0 h hall hmv;go_enter Tryz.func337,Tryz.ntmps337
 go_upto_region 1 with (fail)
 try rw [hR]
 generalize u.alloc (.cells #[.int .i64 0,.string ⟨#[]⟩,.string ⟨#[]⟩,.int .i64 0,.int .i64 0] 343)=u1 at *;have hcc:=HC.out.c.cell;unfold qw at hcc
 try rw [hn] at hcc
 try rw [hn]
 clear hR hn;have hw1:IntKind.i64.wrap ((n:Int)-1)=(n:Int)-1:=IntWalk.i64_in _ (by omega);go_wp2_with fail
 go_loopw [7] (fun i wr=>∃ k:Nat,k≤n∧i=.int .i64 ((k:Int)-1)∧Hid (um L t k=um L t L.length)∧Hid (Ext u1 wr)) (fun i _=>(intOf i+1).toNat)
 case atStart=>exact⟨n,Nat.le_refl _,rfl,Z_ (by rw [HN.out]),Z_ (aB.refl _ _)⟩
 case round=>
  obtain⟨k,hk,rfl,HF,HX⟩:=hrel;clear hcc;have Xx:=Z_ (HC.out.extend HX.out);have Y_:=Z_ (HR.out.ext HX.out);have hcc:=Xx.out.c.cell;unfold qw at hcc;cases k with
  | zero=>
   have hd:decide ((0:Int)≤((0:Nat):Int)-1)=false:=by decide
   have kY:um L t L.length=none:=HF.out.symm;have pM:=Z_ kY;clear kY HF;go_wp2_with fail
   refine(zT Xx.out tC.out t ht).mono ?_
   rintro e w2 ⟨fv,rfl,hfa,hE2⟩;obtain⟨Q,hQ⟩:∃ Q,j_ E t=Q:=⟨_,rfl⟩;rw [hQ] at hfa ⊢;have HQ:=Z_ hQ;clear hQ hcc;obtain⟨f,s,G6⟩:=Q;replace hfa:eC W f fv:=hfa;obtain⟨a9,m9,c9,d9,rfl,hva,-,hms,KT,Xy,-⟩:=hfa;have qW:=hE2.alloc (.cells #[.string f.modn,.slice a9 f.vars.length m9,.slice c9 f.procs.length d9] 37);have Ll:=Z_ (aH.made w2 #[.string f.modn,.slice a9 f.vars.length m9,.slice c9 f.procs.length d9] 37);have HV:=Z_ (fun (w:World) (hE:Ext W w)=>(hva.mono hE.size fun _ _ _ hb h=>h_.ext hE hb h:bW 4 h_ w a9 f.vars));have HR3:=Z_ (Y_.out.ext qW);have wR:=Z_ (HX.out.ext qW);have HW3:=Z_ (Xx.out.ext.ext qW);have zU:=Z_ hms;have hsm:=HQ.out;obtain⟨F9,qy⟩:∃ F9,w2.heap.size=F9:=⟨_,rfl⟩;rw [qy] at Ll;clear hE2 qW hva Xx Y_ HX Ap hms
   go_upto_region 8 with (fail)
   try rw [qy]
   generalize w2.alloc (.cells #[.string f.modn,.slice a9 f.vars.length m9,.slice c9 f.procs.length d9] 37)=u3 at *;clear qy;have hfc:=Ll.out.cell;obtain⟨nv,J_⟩:∃ nv,f.vars.length=nv:=⟨_,rfl⟩;rw [J_] at hfc KT;have PO:=Z_ J_;have Za:=Z_ (show f.modn=f.modn from rfl);obtain⟨fm,hfm⟩:∃ fm,f.modn=fm:=⟨_,rfl⟩;rw [hfm] at hfc;have J0:=Z_ hfm;have ae0:nv≤9223372036854775807:=by unfold maxLen at Xy;omega
   clear J_ hfm hsm;obtain⟨uo,huo⟩:∃ uo,uo=u3:=⟨_,rfl⟩;go_wp2_with fail
   clear hfc;go_loopw [49] (fun i wr=>∃ k:Nat,k≤nv∧i=.int .i64 (k:Nat)∧Hid (G6=true→xB (f.vars.take k) s=none)∧Hid (Ext u3 wr)) (fun i _=>nv-(intOf i).toNat)
   case atStart=>exact⟨0,Nat.zero_le _,rfl,Z_ fun _=>rfl,Z_ (aB.refl _ _)⟩
   case round=>
    obtain⟨k,hk,rfl,HN2,rY⟩:=hrel;have NR:=Z_ (HR3.out.ext rY.out);have SH:=Z_ (Ll.out.ext rY.out);by_cases hlt:k<nv
    ·have hki:(k:Int)<(nv:Int):=by omega
     have hkd:decide ((k:Int)<(nv:Int))=true:=by simpa using hki
     have hkl:k<f.vars.length:=by rw [PO.out];exact hlt
     obtain⟨b,o,rfl,hb,hin⟩:=HV.out _ (HW3.out.ext rY.out) k hkl;obtain⟨l0,l1,l2,l3,lz⟩:=hin;have HST:=Z_ (fun hi=>Iu hkl (HN2.out hi));generalize f.vars[k]=y at *;obtain⟨vn,vp,NS,vz⟩:=y;simp only at l0 l1 l2 l3;have Iw:=Z_ (NR.out.alloc (.cells #[.string vn,.bool vp,.int .i64 NS,.int .i64 vz] 70));have PS:=Z_ (SH.out.alloc (.cells #[.string vn,.bool vp,.int .i64 NS,.int .i64 vz] 70));have TS:=Z_ (aH.made wr #[.string vn,.bool vp,.int .i64 NS,.int .i64 vz] 70);have Ce:=Z_ (rY.out.alloc (.cells #[.string vn,.bool vp,.int .i64 NS,.int .i64 vz] 70));obtain⟨Vb,xC⟩:∃ Vb,wr.heap.size=Vb:=⟨_,rfl⟩;rw [xC] at TS;clear rY NR SH lz;go_upto_region 11 with (fail)
     try rw [xC]
     generalize wr.alloc (.cells #[.string vn,.bool vp,.int .i64 NS,.int .i64 vz] 70)=u5 at *;clear l0 l1 l2 l3 xC;have PT:=TS.out.cell;cases G6 with
     | false=>
      go_wp2_with fail
      go_roundw
      case rel=>exact⟨k+1,by omega,by go_num,Z_ fun h=>(by cases h),Ce⟩
      case measure=>simp [intOf];omega
     | true=>
      by_cases hns:vn=s
      ·have hb1:(vn.toList == s.toList)=true:=by rw [hns];simp
       have GR:=Z_ ((HST.out rfl).1 hns);have hrc:=Iw.out.cell;have hrf:=Iw.out.frozen;have hrl:=Iw.out.lt;have hfc:=PS.out.cell;rw [J0.out] at hfc;clear hns;go_wp2_with fail
       have Iq:=Z_ (((((Iw.out.set 0 (.int .i64 (-1))).set 1 (.string fm)).set 2 (.string s)).set 3 (.int .i64 NS)).set 4 (.int .i64 vz));refine bD rfl rfl rfl Iq.out Tryz.underlying343 rfl (by kernel_rfl) ?_
       simp only [List.setIfInBounds_toArray,List.set_cons_succ,List.set_cons_zero];have iU:=ak (ak (ak (ak (ak (S:=R) (aB.refl _ u5) 0 (.int .i64 (-1))) 1 (.string fm)) 2 (.string s)) 3 (.int .i64 NS)) 4 (.int .i64 vz)
       have hT:T=.ok ⟨-1,fm,s,NS,vz⟩:=by
        rw [←HT.out];unfold uU
        rw [pM.out,HQ.out];simp only
        rw [if_pos trivial,GR.out,J0.out]
       have hso:s.size≤maxLen:=by
        have h:=HQ.out;exact xw t ht h
       rw [hT];exact⟨((HE.out.ext wR.out).ext Ce.out).trans iU (fun i hi e=>by have:=TQ.out;omega),rfl,⟨by show fm.size≤maxLen;rw [←J0.out];exact zU.out,hso⟩⟩
      ·have hb1:(vn.toList == s.toList)=false:=by rw [ByteArray.toList_eq,ByteArray.toList_eq];simpa using fun e=>hns (ByteArray.ext (Array.toList_inj.1 e))
       have GR:=Z_ ((HST.out rfl).2 hns);clear hns;go_wp2_with fail
       go_roundw
       case rel=>exact⟨k+1,by omega,by go_num,Z_ fun _=>GR.out,Ce⟩
       case measure=>simp [intOf];omega
    ·obtain rfl:k=nv:=by omega
     have hkd:decide ((k:Int)<(k:Int))=false:=by simp
     go_wp2_with fail
     have hT:T=.bad 4 p:=by
      rw [←HT.out];unfold uU
      rw [pM.out,HQ.out];simp only
      cases G6 with
      | false=>rfl
      | true=>
       have h:=HN2.out rfl;rw [List.take_of_length_le (by rw [PO.out];exact Nat.le_refl _)] at h;rw [if_pos rfl,h]
     rw [hT];exact⟨rfl,(HE.out.ext wR.out).ext rY.out,rfl⟩
  | succ j=>
   have hjl:j<L.length:=by rw [HN.out];omega
   have hji:((j+1:Nat):Int)-1=(j:Int):=by omega
   have hjn:(j:Int)<(n:Int):=by omega
   have Tq:=Z_ (show (j:Int)<1000 by omega);obtain⟨b,o,rfl,hb,hin⟩:=Ap.out j hjl;rw [bK] at hb;have hin2:=lU (aC HX.out fun i _ e=>e.elim) _ _ _ hin;obtain⟨l0,l1,l2,lz⟩:=lU (az _ _) _ _ _ hin2;have HST:=Z_ (Ir (t:=t) hjl);have hb2:=Nat.lt_of_lt_of_le hb HX.out.size;generalize L[j]=y at *;obtain⟨ln,ll,ld⟩:=y;simp only at l0 l1 l2 lz;rw [hji];have hw2:IntKind.i64.wrap ((j:Int)-1)=(j:Int)-1:=IntWalk.i64_in _ (by have:=Tq.out;omega);have Iw:=Z_ (Y_.out.alloc (.cells #[.string ln,.int .i64 ll,.int .i64 ld] 340));have TS:=Z_ (aH.made wr #[.string ln,.int .i64 ll,.int .i64 ld] 340);have Ce:=Z_ (HX.out.alloc (.cells #[.string ln,.int .i64 ll,.int .i64 ld] 340));obtain⟨Vb,xC⟩:∃ Vb,wr.heap.size=Vb:=⟨_,rfl⟩
   rw [xC] at TS;clear hin hin2 hji;go_upto_region 5 with (fail)
   try rw [xC]
   generalize wr.alloc (.cells #[.string ln,.int .i64 ll,.int .i64 ld] 340)=u5 at *;clear l0 l1 l2 xC hcc;have PT:=TS.out.cell;by_cases hns:ln=t
   ·have hb1:(ln.toList == t.toList)=true:=by rw [hns];simp
    have Ry:=Z_ (show um L t L.length=some (j,⟨ln,ll,ld⟩) by rw [←HF.out,HST.out,if_pos hns]);have hrc:=Iw.out.cell;have hrf:=Iw.out.frozen;have hrl:=Iw.out.lt;clear hns;go_wp2_with fail
    have Iq:=Z_ (((((Iw.out.set 0 (.int .i64 (j:Nat))).set 1 (.string ⟨#[]⟩)).set 2 (.string ⟨#[]⟩)).set 3 (.int .i64 ll)).set 4 (.int .i64 0));refine bD rfl rfl rfl Iq.out Tryz.underlying343 rfl (by kernel_rfl) ?_
    simp only [List.setIfInBounds_toArray,List.set_cons_succ,List.set_cons_zero];have iU:=ak (ak (ak (ak (ak (S:=R) (aB.refl _ u5) 0 (.int .i64 (j:Nat))) 1 (.string ⟨#[]⟩)) 2 (.string ⟨#[]⟩)) 3 (.int .i64 ll)) 4 (.int .i64 0)
    have hT:T=.ok ⟨(j:Nat),aS,aS,ll,0⟩:=by
     rw [←HT.out];unfold uU
     rw [Ry.out]
    rw [hT];exact⟨(HE.out.ext Ce.out).trans iU (fun i hi e=>by have:=TQ.out;omega),rfl,(by decide:aS.size≤maxLen),(by decide:aS.size≤maxLen)⟩
   ·have hb1:(ln.toList == t.toList)=false:=by rw [ByteArray.toList_eq,ByteArray.toList_eq];simpa using fun e=>hns (ByteArray.ext (Array.toList_inj.1 e))
    have Ry:=Z_ (show um L t j=um L t L.length by rw [←HF.out,HST.out,if_neg hns]);clear hns;go_wp2_with fail
    go_roundw
    case rel=>exact⟨j,by omega,rfl,Ry,Ce⟩
    case measure=>simp [intOf]
end chk
end Go.Proofs.YtpcihajmcejliacGreatDoor
