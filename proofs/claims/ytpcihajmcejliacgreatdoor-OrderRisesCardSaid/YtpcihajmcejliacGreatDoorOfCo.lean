/- Look's recover, and what a function with two results in cells tells. -/
import Derived.Defers
import Derived.Recover
import Derived.Test.YtpcihajmcejliacGreatDoorSynKo
import Derived.Test.YtpcihajmcejliacGreatDoorOfEo
namespace Go.Proofs.YtpcihajmcejliacGreatDoor
open Go.RowKit
theorem bQ {P:Program} {fn:Func} {p q:Tmp} {ty F7:TypeId} (h:fn.results=#[.cell p ty,.cell q F7]) (tmps:Array Value) (w:World) {g g2:Nat} {T T2:TypeId} {F8:Array Value} {d d2:TypeDesc} {v:Value}
  (hp:tmps.getD p undef=.pointer (some ⟨g,0,none⟩)) (hg:aC w g #[v] T) (hu:P.underlying ty=some d) (hd:(match d with|.struct _|.array _ _=>true|_=>false)=false)
  (hq:tmps.getD q undef=.pointer (some ⟨g2,0,none⟩)) (hg2:aC w g2 F8 T2) (hu2:P.underlying F7=some d2) (hd2:(match d2 with|.struct _|.array _ _=>true|_=>false)=true) (hi2:(P.info? F7).map (·.size)=some F8.size) :
  (results fn tmps).run P w=.ok (.tuple #[v,.agg F8]) w:=by
 have hp':tmps[p]?.getD undef=.pointer (some ⟨g,0,none⟩):=by simpa using hp
 have hq':tmps[q]?.getD undef=.pointer (some ⟨g2,0,none⟩):=by simpa using hq
 have hl:(loadVar ty ⟨g,0,none⟩).run P w=.ok v w:=by
  have hc:=hg.cell 0;simp only [List.getElem?_toArray,List.getElem?_cons_zero] at hc
  have hagg:(isAgg ty).run P w=.ok false w:=by
   unfold isAgg;rw [Sem.run_bind,run_underlying hu w];cases d<;>simp_all
  simp [loadVar,Sem.run_bind,hagg,hc]
 simp [results,h,hp',hq',asAddr,hl,run_loadVar_row w g2 T2 F7 F8 (0,0) d2 hg2 hu2 hd2 hi2]
namespace UW
open bu cG jf
theorem wU (v:Value) (w:World):(Instr.typeAssert (.iface 225 v) 20 225 true).run Tryz.prog w=.ok (.tuple #[v,.bool true]) w:=by kernel_rfl
def lU (R F:Nat) (c p:Int) (w:World) (e:Exit) (a:Act) (w':World):Prop:=e=.normal∧a.defers=[]∧aC w' R #[.pointer none] 122∧aC w' F #[.int .i64 c,.int .i64 p] 27∧aB (fun i=>i=R∨i=F) w w'
def jE (R F B:Nat) (c p:Int) (w0:World) (cs fs:Array Value):List Value→World→Prop
 | [],u=>aC u R cs 122∧aC u F fs 27∧aB (fun i=>i=R∨i=F) w0 u∧aC u B #[.int .i64 c,.int .i64 p] 225
 | [_],u=>aC u R #[.pointer none] 122∧aC u F fs 27∧aB (fun i=>i=R∨i=F) w0 u∧aC u B #[.int .i64 c,.int .i64 p] 225
 | _,u=>aC u R #[.pointer none] 122∧aC u F #[.int .i64 c,.int .i64 p] 27∧aB (fun i=>i=R∨i=F) w0 u∧aC u B #[.int .i64 c,.int .i64 p] 225
theorem jE.b {R F B:Nat} {c p:Int} {w0 u:World} {cs fs:Array Value} {vs:List Value} (h:jE R F B c p w0 cs fs vs u):aC u B #[.int .i64 c,.int .i64 p] 225:=by
 match vs,h with
 | [],h=>exact h.2.2.2
 | [_],h=>exact h.2.2.2
 | _::_::_,h=>exact h.2.2.2
set_option maxRecDepth 100000 in
set_option maxHeartbeats 4000000 in
theorem jA (R F:Nat) (c0 f0 f1:Value) (c p:Int) (w:World) (hR:aC w R #[c0] 122) (hF:aC w F #[f0,f1] 27) (hne:R≠F) :
  CallsD Tryz.prog 111 #[.pointer (some ⟨R,0,none⟩),.pointer (some ⟨F,0,none⟩)] (.panicking (xy c p)) w fun e u' w'=>
   e=.returned (.tuple #[])∧u'=.panicking [{ v:=.iface 225 (.agg #[.int .i64 c,.int .i64 p]),recovered:=true }]∧aC w' R #[.pointer none] 122∧aC w' F #[.int .i64 c,.int .i64 p] 27∧aB (fun i=>i=R∨i=F) w w':=by
 have hta:=wU;have Bv:=hR.lt;have Bz:=hF.lt;obtain⟨B,hB⟩:∃ B,w.heap.size=B:=⟨_,rfl⟩;have hB0:=aC.made w #[.int .i64 c,.int .i64 p] 225;rw [hB] at hB0 Bv Bz;have hR0:=hR.alloc (.cells #[.int .i64 c,.int .i64 p] 225);have kY:=hF.alloc (.cells #[.int .i64 c,.int .i64 p] 225);have lH:=(aB.refl (fun i=>i=R∨i=F) w).alloc (.cells #[.int .i64 c,.int .i64 p] 225);refine callsD_of_wpS Tryz.func111 rfl fun c₀ cs hu=>?_
 unfold xy at hu;apply wpS_seq
 apply wpS_region
 simp [wpOpsS,go_sem,recoverD,hu,Tryz.ntmps111,Exit.thenS]
 simp only [Array.replicate,List.replicate,List.append_toArray,List.setIfInBounds_toArray,List.set_cons_zero,List.set_cons_succ,List.cons_append,List.nil_append];refine wpS_of_wp (Code.wp_mono (Q:=lU R F c p w) ?_ ?_)
 ·rintro e a w1 ⟨rfl,hd,h1,h2,h3⟩
  exact⟨hd,_,rfl,_,results_none rfl _ _ _,rfl,rfl,h1,h2,h3⟩
 clear hu;have HR0:=Z_ hR0;have o_:=Z_ kY;have HX0:=Z_ lH;have SI:=Z_ hB0;clear hR hF hR0 kY lH hB0;unfold lU;go_upto_region 5 with (fail)
 try rw [hB]
 generalize w.alloc (.cells #[.int .i64 c,.int .i64 p] 225)=u0 at *;refine aj [2,3] (fun i v _=>v=([.pointer (some ⟨B,0,none⟩),.agg #[.int .i64 c,.int .i64 p],undef,undef]:List Value).getD i undef) (jE R F B c p w #[c0] #[f0,f1]) (fun _ _=>True) (frame:=?KJ) (fun x=>?r_) bu.mixed (by kernel_rfl) (by kernel_rfl) (fun _ _ _ _ h _=>h) ?h0c ?KL ?wV
 case r_=>
  simp only [chain.aN,chain.fill,chain.bf,chain.aY,jW,jX,jY,jZ,kz,kC,kD,kE,kF];exact rfl
 case h0c=>exact⟨HR0.out.drew,o_.out.drew,HX0.out.drew,SI.out.drew⟩
 case KL=>
  iterate 4 (refine ak.cons (fun x vs u hF hm hb hd K' hK'=>?_) ?_;rotate_left)
  exact ak.nil
  ·have HF:=Z_ hF;clear hd hm hb hF;go_simp;exact hK'.out _ _ _ (rfl) trivial ⟨rfl,HF.out⟩
  ·have hc:=hF.b.cell;have y0:x 16=.pointer (some ⟨B,0,none⟩):=(D_ hd 0 :);have HF:=Z_ hF;clear hd hm hb hF;go_simp;exact hK'.out _ _ _ (by simp only [y0];rfl) trivial ⟨rfl,HF.out⟩
  ·obtain rfl:=kS hm;obtain⟨g1,g2,g3,g4⟩:=(show _∧_ from hF);have hc:=g1.cell;have hf:=g1.frozen;have hl:=g1.lt;have HG:=Z_ (And.intro g1 (And.intro g2 (And.intro g3 g4)));clear hd hm hb hF g1 g2 g3 g4;go_simp;obtain⟨g1,g2,g3,g4⟩:=HG.out;exact hK'.out _ _ undef rfl trivial ⟨g1.set 0 _,g2.setOther (p:=⟨R,0,none⟩) (by show F≠R;omega) _,g3.setCell (p:=⟨R,0,none⟩) (fun _=>.inl rfl) _,g4.setOther (p:=⟨R,0,none⟩) (by show B≠R;omega) _⟩
  ·have y0:x 17=.agg #[.int .i64 c,.int .i64 p]:=(D_ hd 1 :);obtain⟨v0,rfl⟩:=mD hm
   obtain⟨g1,g2,g3,g4⟩:=(show _∧_ from hF);have hc:=g2.cell;have hf:=g2.frozen;have hl:=g2.lt;have HG:=Z_ (And.intro g1 (And.intro g2 (And.intro g3 g4)));clear hd hm hb hF g1 g2 g3 g4;go_simp;obtain⟨g1,g2,g3,g4⟩:=HG.out;exact hK'.out _ _ undef (by simp only [y0];rfl) trivial ⟨(g1.setOther (p:=⟨F,0,none⟩) hne _).setOther (p:=⟨F,1,none⟩) hne _,(g2.set 0 _).set 1 _,(g3.setCell (p:=⟨F,0,none⟩) (fun _=>.inr rfl) _).setCell (p:=⟨F,1,none⟩) (fun _=>.inr rfl) _,(g4.setOther (p:=⟨F,0,none⟩) (by show B≠F;omega) _).setOther (p:=⟨F,1,none⟩) (by show B≠F;omega) _⟩
 case wV=>
  intro x vs w9 hl hF hk;obtain⟨v0,v1,rfl⟩:=DT hl
  obtain⟨g1,g2,g3,g4⟩:=(show _∧_ from hF);clear hk hl;have HG:=Z_ (And.intro g1 (And.intro g2 g3));clear hF g1 g2 g3 g4;go_wp2_with (fail)
  exact HG.out
theorem ug (R F:Nat) (w:World) :
  CallsD Tryz.prog 111 #[.pointer (some ⟨R,0,none⟩),.pointer (some ⟨F,0,none⟩)] .returning w fun e u' w'=>e=.returned (.tuple #[])∧u'=.returning∧w'=w:=by
 refine callsD_of_wpS Tryz.func111 rfl fun c₀ cs hu=>?_
 apply wpS_seq
 apply wpS_region
 simp [wpOpsS,go_sem,recoverD,hu,Tryz.ntmps111,Exit.thenS]
 simp only [Array.replicate,List.replicate,List.append_toArray,List.setIfInBounds_toArray,List.set_cons_zero,List.set_cons_succ,List.cons_append,List.nil_append];refine wpS_of_wp (Code.wp_mono (Q:=fun e a' w'=>e=.normal∧a'.defers=[]∧w'=w) ?_ ?_)
 ·rintro e a w1 ⟨rfl,hd,rfl⟩
  exact⟨hd,.returning,by cases c₀;simp_all,_,results_none rfl _ _ _,rfl,rfl,rfl⟩
 clear hu;go_wp2_with (fail)
end UW
end Go.Proofs.YtpcihajmcejliacGreatDoor
