/- The walk of syntax.Parse. What form a node has that a text is read as, in plain Lean. What the face of a text is, in plain Lean; what a call that tells it comes to. Faces, in plain Lean; and how one lies in memory. What the checker makes of a module, in plain Lean: what names are, labels, faults. The order of a program in plain Lean. -/
import Derived.Maps.OwnSet
import Derived.Maps.OwnOps
import Derived.Lib.IndexMore
import Derived.Test.YtpcihajmcejliacGreatDoorSynKo
import Derived.Test.YtpcihajmcejliacGreatDoorOfMo
import Derived.Test.YtpcihajmcejliacGreatDoorLexNumo
import Derived.Test.YtpcihajmcejliacGreatDoorNameMatho
namespace Go.Proofs.YtpcihajmcejliacGreatDoor
open Go.RowKit
def kH:Nd:=.mk 0 aU 0 []
def aJ (s:ByteArray):Nd×Int×Int:=
 if (iP s.data.toList).2.1=0 then
  match bJ (20*(iP s.data.toList).1.length+5) .module (lD s (iP s.data.toList).1) with
  | .got x _=>if (fA 16 x 0).1=true then (x,0,(iP s.data.toList).2.2) else (kH,1,0)
  | .bad l=>(kH,2,posOf s.size l)
  | .out=>(kH,0,0)
 else (kH,(iP s.data.toList).2.1,(iP s.data.toList).2.2)
namespace bu
def rJ (w:World) (R:Nd×Int×Int) (e:Ending) (w':World):Prop:=Ext w w'∧∃ v,e=.returned (.tuple #[v,.agg #[.int .i64 R.2.1,.int .i64 R.2.2]])∧fN (hide (below w.heap.size) w') R.1 v
structure PI (w u:World) (R F:Nat) (a b c d f0 f1:Value) (x:Nd):Prop where
 r:aC u R #[a,b,c,d] 24
 f:aC u F #[f0,f1] 27
 ext:Ext w u
 nd:fN (hide (below (F+1)) u) x (.agg #[a,b,c,d])
 hR:w.heap.size≤R
 pU:R<F
theorem PI.drew {w u:World} {R F:Nat} {a b c d f0 f1:Value} {x:Nd} (h:PI w u R F a b c d f0 f1 x):PI w u.drew R F a b c d f0 f1 x:=⟨h.r.drew,h.f.drew,h.ext.drew,pY h.nd (aB.refl (fun _=>False) u).drew (fun _ h=>h.elim),h.hR,h.pU⟩
theorem PI.LM {w u:World} {R F:Nat} {a b c d f0 f1:Value} {x:Nd} (h:PI w u R F a b c d f0 f1 x):PI w ((((u.setCell ⟨R,0,none⟩ a).setCell ⟨R,1,none⟩ b).setCell ⟨R,2,none⟩ c).setCell ⟨R,3,none⟩ d) R F a b c d f0 f1 x:=by
 have h1:=h.hR;have h2:=h.pU
 have hC:aB (fun i=>i=R) u ((((u.setCell ⟨R,0,none⟩ a).setCell ⟨R,1,none⟩ b).setCell ⟨R,2,none⟩ c).setCell ⟨R,3,none⟩ d):=ai (ai (ai (ai (aB.refl _ _) 0 a) 1 b) 2 c) 3 d;exact⟨(((h.r.set 0 a).set 1 b).set 2 c).set 3 d,h.f.aK hC (by omega),h.ext.trans hC (fun i hi e=>by omega),pY h.nd hC (fun i e=>by omega),h1,h2⟩
theorem PI.LN {w u:World} {R F:Nat} {a b c d f0 f1:Value} {x:Nd} (h:PI w u R F a b c d f0 f1 x):PI w ((u.setCell ⟨F,0,none⟩ f0).setCell ⟨F,1,none⟩ f1) R F a b c d f0 f1 x:=by
 have h1:=h.hR;have h2:=h.pU
 have hC:aB (fun i=>i=F) u ((u.setCell ⟨F,0,none⟩ f0).setCell ⟨F,1,none⟩ f1):=ai (ai (aB.refl _ _) 0 f0) 1 f1;exact⟨h.r.aK hC (by omega),(h.f.set 0 f0).set 1 f1,h.ext.trans hC (fun i hi e=>by omega),pY h.nd hC (fun i e=>by omega),h1,h2⟩
theorem PI.post {w u:World} {R F:Nat} {a b c d:Value} {f0 f1:Int} {x:Nd} {Q:Nd×Int×Int} (h:PI w u R F a b c d (.int .i64 f0) (.int .i64 f1) x) (hQ:Q=(x,f0,f1)):rJ w Q (.returned (.tuple #[.agg #[a,b,c,d],.agg #[.int .i64 f0,.int .i64 f1]])) u:=by
 subst hQ;have h1:=h.hR;have h2:=h.pU
 exact⟨h.ext,_,rfl,aX (aT (Nat.le_refl _) fun i hi hm=>⟨by simp [below] at hm ⊢;omega,rfl⟩) _ _ h.nd⟩
set_option maxRecDepth 100000 in
set_option maxHeartbeats 8000000 in
theorem EI (s:ByteArray) (w:World) (hs:s.size≤9223372036854775807) (hv:ErrVar w) (hm:cE w) :
  Calls Tryz.prog 15 #[.string s] w (rJ w (aJ s)):=by
 obtain⟨Q,hQ⟩:∃ Q,aJ s=Q:=⟨_,rfl⟩;rw [hQ];unfold aJ at hQ;obtain⟨T,hT⟩:∃ T,iP s.data.toList=T:=⟨_,rfl⟩;rw [hT] at hQ;have ru:=Z_ hT;obtain⟨ts,c,a⟩:=T;simp only at hQ;have HQ:=Z_ hQ;obtain⟨R,hR⟩:∃ R,w.heap.size=R:=⟨_,rfl⟩;obtain⟨F,hF⟩:∃ F,R+1=F:=⟨_,rfl⟩;have hR0:=(aC.made w #[.int .i64 0,.string ⟨#[]⟩,.int .i64 0,.slice none 0 0] 24).alloc (.cells #[.int .i64 0,.int .i64 0] 27);have kY:=aC.made2 w (.cells #[.int .i64 0,.string ⟨#[]⟩,.int .i64 0,.slice none 0 0] 24) #[.int .i64 0,.int .i64 0] 27;rw [hR] at hR0 kY;rw [hF] at kY;have lH:=((aB.refl (fun _=>False) w).alloc (.cells #[.int .i64 0,.string ⟨#[]⟩,.int .i64 0,.slice none 0 0] 24)).alloc (.cells #[.int .i64 0,.int .i64 0] 27);have HC:=Z_ (lexTells.BU s _ hs (hv.ext lH) (ts,c,a) (Z_ hT))
 have HM:=Z_ (fun (u:World) (hE:Ext w u)=>hm.ext hE);have pU:R<F:=by omega
 have HR0:=Z_ hR0;have o_:=Z_ kY;have HX0:=Z_ lH;have hmf:∀ (fn:Fn) (first cap:Array Value) (w:World),(Instr.makeFunc fn first cap).run Tryz.prog w=.ok (.func fn first cap) w:=fun _ _ _ _=>rfl
 clear hv hm hT hQ hR0 kY lH;go_enter_defers Tryz.func15,Tryz.ntmps15
 go_upto_region 1 with (fail)
 try rw [hF]
 generalize (w.alloc (.cells #[.int .i64 0,.string ⟨#[]⟩,.int .i64 0,.slice none 0 0] 24)).alloc (.cells #[.int .i64 0,.int .i64 0] 27)=u0 at *;go_wp2_with fail
 refine HC.out.mono ?_
 rintro e w1 ⟨v,rfl,ho,hE1⟩;have HO:=Z_ ho;have hR1:=HR0.out.ext hE1;have hF1:=o_.out.ext hE1;have hX1:=HX0.out.ext hE1;have hsz1:F+1≤w1.heap.size:=by have:=o_.out.lt;have:=hE1.size;omega
 have hc:=hF1.cell;have hf:=hF1.frozen;have hl:=hF1.lt
 have XM:PI w ((w1.setCell ⟨F,0,none⟩ (.int .i64 c)).setCell ⟨F,1,none⟩ (.int .i64 a)) R F (.int .i64 0) (.string ⟨#[]⟩) (.int .i64 0) (.slice none 0 0) (.int .i64 c) (.int .i64 a) kH:=
  ⟨(hR1.setOther (p:=⟨F,0,none⟩) (by show R≠F;omega) _).setOther (p:=⟨F,1,none⟩) (by show R≠F;omega) _,(hF1.set 0 _).set 1 _,(hX1.bI (p:=⟨F,0,none⟩) (by show w.heap.size≤F;omega) _).bI (p:=⟨F,1,none⟩) (by show w.heap.size≤F;omega) _,kM _ _ _ _ (by decide),by omega,pU⟩
 have hO2:=uO (uO ho (p:=⟨F,0,none⟩) (by intro k hk;have:=(World.ownsRow.lt ho k hk).1;have:=o_.out.lt;show k≠F;omega) (.int .i64 c)) (p:=⟨F,1,none⟩) (by intro k hk;have:=(World.ownsRow.lt ho k hk).1;have:=o_.out.lt;show k≠F;omega) (.int .i64 a);have Gv:=Z_ hO2;have lM:=Z_ XM;clear ho hR1 hF1 hX1 XM hO2 hE1 HC HO HR0 o_ HX0;go_upto_region 2 with (fail)
 clear hc hf hl;have al2:F+1≤((w1.setCell ⟨F,0,none⟩ (.int .i64 c)).setCell ⟨F,1,none⟩ (.int .i64 a)).heap.size:=by simpa using hsz1
 generalize (w1.setCell ⟨F,0,none⟩ (.int .i64 c)).setCell ⟨F,1,none⟩ (.int .i64 a)=u1 at *;clear hsz1;have hc:=lM.out.f.cell;by_cases hc0:c=0
 ·subst hc0
  have hQ2:=HQ.out;rw [if_pos rfl] at hQ2;have pI:=Z_ hQ2;obtain⟨hs3,hok,htl⟩:=LO.xN s ts a ru.out;obtain⟨ta,tc,rfl,htk⟩:=LO.TG Gv.out hok;obtain⟨NT',XN⟩:∃ q,ts.length=q:=⟨_,rfl⟩;rw [XN] at htl Gv;have HLT:=Z_ XN;clear hQ2 HQ hok;rw [XN];obtain⟨S,hS⟩:∃ S,u1.heap.size=S:=⟨_,rfl⟩
  have SS:bz u1 (u1.alloc (.cells #[.slice ta NT' tc,.int .i64 0,.int .i64 (s.size:Nat)] 108)) S s.size (lD s ts):=by
   refine⟨⟨ta,NT',tc,0,?_,by simp [lD,XN],by omega,htk⟩,(aB.refl _ _).alloc _,by omega⟩
   rw [←hS];exact aC.made u1 _ _
  have HN:=Z_ (LP (20*ts.length+5) .module _ _ SS (HM.out u1 lM.out.ext) rfl trivial (bF.ER _ _ _ (by simp [lD,NT.rank])));have hne:=bF.ER (20*ts.length+5) .module (lD s ts) (by simp [lD,NT.rank]);have h_:=Z_ hne;have hE2:=(aB.refl (fun _=>False) u1).alloc (.cells #[.slice ta NT' tc,.int .i64 0,.int .i64 (s.size:Nat)] 108);have HR2:=Z_ (lM.out.r.ext hE2);have HF2:=Z_ (lM.out.f.ext hE2);have rS:=Z_ (lM.out.ext.ext hE2);have hSF:F<S:=by omega
  clear SS hne hE2 htk;rw [XN] at HN h_ pI;go_upto_region 6 with (fail)
  try rw [hS]
  clear hc;generalize u1.alloc (.cells #[.slice ta NT' tc,.int .i64 0,.int .i64 (s.size:Nat)] 108)=u2 at *;go_wp2_with fail
  refine HN.out.mono ?_
  rintro e w3 hr;obtain⟨hC,⟨lb,hp,rfl⟩|⟨x,lx,v,hp,rfl,hvx,hP⟩⟩:=hr.cases h_.out
  ·have F_:=Z_ (show Q=(kH,2,posOf s.size lb) by have:=pI.out;rw [hp] at this;exact this.symm)
   have Iq:=HR2.out.aK hC (by omega);have hF3:=HF2.out.aK hC (by omega);have qU:=rS.out.trans hC (fun i hi e=>by have:=lM.out.ext.size;omega);clear hr hp hC HN;go_wp2_with fail
   refine leaves_cons (f:=47) (args:=#[.pointer (some ⟨R,0,none⟩),.pointer (some ⟨F,0,none⟩)]) (by simp) (by simp [go_sem]) ?_
   refine(Dh R F _ _ _ _ Iq rfl hF3 rfl (by omega)).mono ?_
   rintro e u' w'' ⟨rfl,rfl,qN,qO,rC⟩;exact⟨_,mW rfl _ _ rfl qN Tryz.underlying24 rfl (by kernel_rfl) rfl qO Tryz.underlying27 rfl (by kernel_rfl),(⟨qN,qO,qU.trans rC fun i hi e=>by omega,kM _ _ _ _ (by decide),by omega,pU⟩:PI w w'' R F _ _ _ _ _ _ kH).post F_.out⟩
  ·have F_:=Z_ (show (if (fA 16 x 0).1=true then (x,(0:Int),(a:Int)) else (kH,1,0))=Q by have:=pI.out;rw [hp] at this;exact this)
   have Iq:=HR2.out.aK hC (by omega);have hF3:=HF2.out.aK hC (by omega);have qU:=rS.out.trans hC (fun i hi e=>by have:=lM.out.ext.size;omega);have hsz3:=hC.size;have hu2:=hr.1.size;obtain⟨kx,tx,mx,ax,nx,cx,rfl⟩:=cH hvx;have hSu:=lM.out.ext.size;have al3:F+1≤u2.heap.size:=by have:=HF2.out.lt;omega
   have XO:fN (hide (below (F+1)) w3) x (.agg #[.int .i64 kx,.string tx,.int .i64 mx,.slice ax nx cx]):=BQ hvx (by omega)
   have IA:PI w ((((w3.setCell ⟨R,0,none⟩ (.int .i64 kx)).setCell ⟨R,1,none⟩ (.string tx)).setCell ⟨R,2,none⟩ (.int .i64 mx)).setCell ⟨R,3,none⟩ (.slice ax nx cx)) R F (.int .i64 kx) (.string tx) (.int .i64 mx) (.slice ax nx cx) (.int .i64 0) (.int .i64 a) x:=by
    have hCC:aB (fun i=>i=R) w3 ((((w3.setCell ⟨R,0,none⟩ (.int .i64 kx)).setCell ⟨R,1,none⟩ (.string tx)).setCell ⟨R,2,none⟩ (.int .i64 mx)).setCell ⟨R,3,none⟩ (.slice ax nx cx)):=ai (ai (ai (ai (aB.refl _ _) 0 _) 1 _) 2 _) 3 _;exact⟨(((Iq.set 0 _).set 1 _).set 2 _).set 3 _,hF3.aK hCC (by omega),qU.trans hCC (fun i hi e=>by omega),pY XO hCC (fun i e=>by omega),by omega,pU⟩
   have hc:=Iq.cell;have hf:=Iq.frozen;have hl:=Iq.lt;clear hr hp hC HN hvx XO Iq hF3 qU lM HR2 HF2 rS;have lM:=Z_ IA;clear IA;go_upto_region 7 with (fail)
   clear hc hf hl;generalize (((w3.setCell ⟨R,0,none⟩ (.int .i64 kx)).setCell ⟨R,1,none⟩ (.string tx)).setCell ⟨R,2,none⟩ (.int .i64 mx)).setCell ⟨R,3,none⟩ (.slice ax nx cx)=u4 at *;obtain⟨M,hM⟩:∃ M,u4.heap.size=M:=⟨_,rfl⟩;have vJ:=(aB.refl (fun _=>False) u4).alloc (.cells #[.int .i64 0] 3);have al4:=lM.out.f.lt
   have TJ:PI w (u4.alloc (.cells #[.int .i64 0] 3)) R F (.int .i64 kx) (.string tx) (.int .i64 mx) (.slice ax nx cx) (.int .i64 0) (.int .i64 a) x:=
    ⟨lM.out.r.ext vJ,lM.out.f.ext vJ,lM.out.ext.ext vJ,aX (aH vJ fun _ _ h=>h.elim) _ _ lM.out.nd,by omega,pU⟩
   have hM4:aC (u4.alloc (.cells #[.int .i64 0] 3)) M #[.int .i64 (0:Nat)] 3:=by rw [←hM];exact aC.made u4 _ _
   have TL:fN (hide (fun i=>below (F+1) i || decide (i=M)) (u4.alloc (.cells #[.int .i64 0] 3))) x (.agg #[.int .i64 kx,.string tx,.int .i64 mx,.slice ax nx cx]):=by
    refine aX (aT (by simp) fun i hi hm=>?_) _ _ lM.out.nd
    refine⟨?_,Below.heap_alloc _ _ _ hi⟩
    rw [hm,Bool.false_or,decide_eq_false_iff_not];omega
   have HW:=Z_ (Ir 16 x _ _ M 0 1 _ TL (by simp) hM4 (by decide) (by decide) (by decide));have hrc:=TJ.r.cell;generalize fA 16 x 0=WF at *;clear lM;have lM:=Z_ TJ;have hMF:F<M:=by omega
   have MZ:=Z_ TL;clear TJ hM4 TL vJ;go_upto_region 8 with (fail)
   try rw [hM]
   generalize u4.alloc (.cells #[.int .i64 0] 3)=u5 at *;go_wp2_with fail
   refine HW.out.mono ?_
   rintro e w6 ⟨rfl,zJ,U1⟩;have hu5:=lM.out.ext.size
   have XP:PI w w6 R F (.int .i64 kx) (.string tx) (.int .i64 mx) (.slice ax nx cx) (.int .i64 0) (.int .i64 a) x:=
    ⟨lM.out.r.aK zJ (by omega),lM.out.f.aK zJ (by omega),lM.out.ext.trans zJ (fun i hi e=>by have:=lM.out.hR;omega),(aX (aT (Nat.le_refl _) fun i hi hm=>⟨by simp only [Bool.or_eq_false_iff] at hm;exact hm.1,rfl⟩) _ _ (aX (aH zJ fun i _ e=>by rw [e];simp) _ _ MZ.out)),by omega,pU⟩
   clear lM;have lM:=Z_ XP;clear XP zJ U1 HW hrc;obtain⟨wb,wm⟩:=WF;cases wb with
   | true=>
    have UO:=Z_ (show Q=(x,(0:Int),(a:Int)) by have:=F_.out;rw [if_pos rfl] at this;exact this.symm);have hdrop:=MZ;clear hdrop MZ;go_upto_region 10 with (fail)
    refine aj [2,3] (fun i v _=>v=([.agg #[.int .i64 kx,.string tx,.int .i64 mx,.slice ax nx cx],.agg #[.int .i64 0,.int .i64 a],undef,undef]:List Value).getD i undef) (fun _ u=>PI w u R F (.int .i64 kx) (.string tx) (.int .i64 mx) (.slice ax nx cx) (.int .i64 0) (.int .i64 a) x) (fun _ _=>True) (frame:=?Es) (fun x=>?rD) mixed (by kernel_rfl) (by kernel_rfl) (fun _ _ _ _ h _=>h) ?Et ?Eu ?rE
    case rD=>
     simp only [chain.aN,chain.fill,chain.bf,chain.aY,jW,jX,jY,jZ,kz,kC,kD,kE,kF];exact rfl
    case Et=>exact lM.out.drew
    case Eu=>
     iterate 4 (refine ak.cons (fun x vs u hF hm hb hd K' hK'=>?_) ?_;rotate_left)
     exact ak.nil
     ·have hc:=hF.r.cell;have HF:=Z_ hF;clear hd hm hb hF;go_simp;exact hK'.out _ _ _ rfl trivial ⟨rfl,HF.out⟩
     ·have hc:=hF.f.cell;have HF:=Z_ hF;clear hd hm hb hF;go_simp;exact hK'.out _ _ _ rfl trivial ⟨rfl,HF.out⟩
     ·have y0:x 30=.agg #[.int .i64 kx,.string tx,.int .i64 mx,.slice ax nx cx]:=(D_ hd 0 :);have hc:=hF.r.cell;have hf:=hF.r.frozen;have hl:=hF.r.lt;have HF:=Z_ hF;clear hd hm hb hF;go_simp;exact hK'.out _ _ undef (by simp only [y0];rfl) trivial HF.out.LM
     ·have y0:x 31=.agg #[.int .i64 0,.int .i64 a]:=(D_ hd 1 :);have hc:=hF.f.cell;have hf:=hF.f.frozen;have hl:=hF.f.lt;have HF:=Z_ hF;clear hd hm hb hF;go_simp;exact hK'.out _ _ undef (by simp only [y0];rfl) trivial HF.out.LN
    case rE=>
     intro x vs w9 hl hF hk;have jy:=Z_ hF;clear hk hl hF;go_wp2_with fail
     refine leaves_cons (f:=47) (args:=#[.pointer (some ⟨R,0,none⟩),.pointer (some ⟨F,0,none⟩)]) (by simp) (by simp [go_sem]) ?_
     refine(xO R F _).mono ?_
     rintro e u' w'' ⟨rfl,rfl,rfl⟩;exact⟨_,mW rfl _ _ rfl jy.out.r Tryz.underlying24 rfl (by kernel_rfl) rfl jy.out.f Tryz.underlying27 rfl (by kernel_rfl),jy.out.post UO.out⟩
   | false=>
    have UO:=Z_ (show Q=(kH,1,0) by have:=F_.out;simp only [Bool.false_eq_true,↓reduceIte] at this;exact this.symm);have hrc:=lM.out.r.cell;have hrf:=lM.out.r.frozen;have hrl:=lM.out.r.lt;have hfc:=lM.out.f.cell;have DU:=lM.out.f.frozen;have hfl:=lM.out.f.lt;have hCR:aB (fun i=>i=R) w6 ((((w6.setCell ⟨R,0,none⟩ (.int .i64 0)).setCell ⟨R,1,none⟩ (.string ⟨#[]⟩)).setCell ⟨R,2,none⟩ (.int .i64 0)).setCell ⟨R,3,none⟩ (.slice none 0 0)):=ai (ai (ai (ai (aB.refl _ _) 0 _) 1 _) 2 _) 3 _
    have TP:PI w ((((w6.setCell ⟨R,0,none⟩ (.int .i64 0)).setCell ⟨R,1,none⟩ (.string ⟨#[]⟩)).setCell ⟨R,2,none⟩ (.int .i64 0)).setCell ⟨R,3,none⟩ (.slice none 0 0)) R F (.int .i64 0) (.string ⟨#[]⟩) (.int .i64 0) (.slice none 0 0) (.int .i64 0) (.int .i64 a) kH:=
     ⟨(((lM.out.r.set 0 _).set 1 _).set 2 _).set 3 _,lM.out.f.aK hCR (by omega),lM.out.ext.trans hCR (fun i hi e=>by have:=lM.out.hR;omega),kM _ _ _ _ (by decide),lM.out.hR,pU⟩
    have XQ:PI w ((((((w6.setCell ⟨R,0,none⟩ (.int .i64 0)).setCell ⟨R,1,none⟩ (.string ⟨#[]⟩)).setCell ⟨R,2,none⟩ (.int .i64 0)).setCell ⟨R,3,none⟩ (.slice none 0 0)).setCell ⟨F,0,none⟩ (.int .i64 1)).setCell ⟨F,1,none⟩ (.int .i64 0)) R F (.int .i64 0) (.string ⟨#[]⟩) (.int .i64 0) (.slice none 0 0) (.int .i64 1) (.int .i64 0) kH:=
     ⟨(TP.r.setOther (p:=⟨F,0,none⟩) (by show R≠F;omega) _).setOther (p:=⟨F,1,none⟩) (by show R≠F;omega) _,(TP.f.set 0 _).set 1 _,(TP.ext.bI (p:=⟨F,0,none⟩) (by show w.heap.size≤F;have:=TP.hR;omega) _).bI (p:=⟨F,1,none⟩) (by show w.heap.size≤F;have:=TP.hR;omega) _,kM _ _ _ _ (by decide),TP.hR,pU⟩
    have Vy:=Z_ XQ;clear TP XQ hCR;go_wp2_with fail
    refine leaves_cons (f:=47) (args:=#[.pointer (some ⟨R,0,none⟩),.pointer (some ⟨F,0,none⟩)]) (by simp) (by simp [go_sem]) ?_
    refine(xO R F _).mono ?_
    rintro e u' w'' ⟨rfl,rfl,rfl⟩;exact⟨_,mW rfl _ _ rfl Vy.out.r Tryz.underlying24 rfl (by kernel_rfl) rfl Vy.out.f Tryz.underlying27 rfl (by kernel_rfl),Vy.out.post UO.out⟩
 ·have pI:=Z_ (show Q=(kH,c,(a:Int)) by have:=HQ.out;rw [if_neg hc0] at this;exact this.symm)
  have hcn:(c != 0)=true:=by simpa using hc0
  clear HQ;go_upto_region 3 with (fail)
  refine aj [2,3] (fun i v _=>v=([.agg #[.int .i64 0,.string ⟨#[]⟩,.int .i64 0,.slice none 0 0],.agg #[.int .i64 c,.int .i64 a],undef,undef]:List Value).getD i undef) (fun _ u=>PI w u R F (.int .i64 0) (.string ⟨#[]⟩) (.int .i64 0) (.slice none 0 0) (.int .i64 c) (.int .i64 a) kH) (fun _ _=>True) (frame:=?ES) (fun x=>?rK) mixed (by kernel_rfl) (by kernel_rfl) (fun _ _ _ _ h _=>h) ?ET ?EU ?rL
  case rK=>
   simp only [chain.aN,chain.fill,chain.bf,chain.aY,jW,jX,jY,jZ,kz,kC,kD,kE,kF];exact rfl
  case ET=>exact lM.out.drew
  case EU=>
   iterate 4 (refine ak.cons (fun x vs u hF hm hb hd K' hK'=>?_) ?_;rotate_left)
   exact ak.nil
   ·have hc:=hF.r.cell;have HF:=Z_ hF;clear hd hm hb hF;go_simp;exact hK'.out _ _ _ rfl trivial ⟨rfl,HF.out⟩
   ·have hc:=hF.f.cell;have HF:=Z_ hF;clear hd hm hb hF;go_simp;exact hK'.out _ _ _ rfl trivial ⟨rfl,HF.out⟩
   ·have y0:x 15=.agg #[.int .i64 0,.string ⟨#[]⟩,.int .i64 0,.slice none 0 0]:=(D_ hd 0 :);have hc:=hF.r.cell;have hf:=hF.r.frozen;have hl:=hF.r.lt;have HF:=Z_ hF;clear hd hm hb hF;go_simp;exact hK'.out _ _ undef (by simp only [y0];rfl) trivial HF.out.LM
   ·have y0:x 16=.agg #[.int .i64 c,.int .i64 a]:=(D_ hd 1 :);have hc:=hF.f.cell;have hf:=hF.f.frozen;have hl:=hF.f.lt;have HF:=Z_ hF;clear hd hm hb hF;go_simp;exact hK'.out _ _ undef (by simp only [y0];rfl) trivial HF.out.LN
  case rL=>
   intro x vs w9 hl hF hk;have jy:=Z_ hF;clear hk hl hF;go_wp2_with fail
   exact⟨_,mW rfl _ _ rfl jy.out.r Tryz.underlying24 rfl (by kernel_rfl) rfl jy.out.f Tryz.underlying27 rfl (by kernel_rfl),jy.out.post pI.out⟩
end bu
end Go.Proofs.YtpcihajmcejliacGreatDoor
namespace Go.Proofs.YtpcihajmcejliacGreatDoor
open Go.RowKit
def lY (t:ByteArray):Prop:=nameB t.data.toList=true
def rM (t:ByteArray):Prop:=lY t∨∃ a b,lY a∧lY b∧t=a++(H7++b)
def mF (k:Int):Prop:=15≤k∧k≤21
def UA (k:Int):Prop:=k=16∨k=17
def t_ (k:Int):Prop:=7≤k∧k≤14
inductive Form:Int→ByteArray→Int→List Nd→Prop
 | module {t:ByteArray} {a b:List Nd} (ht:lY t) (ha:∀ y∈a,y.kd=2) (hb:∀ y∈b,y.kd=3∨y.kd=4):Form 1 t 0 (a++b)
 | imp {t:ByteArray} (ht:lY t):Form 2 t 0 []
 | var {t:ByteArray} {m:Int} (ht:lY t) (h0:0≤m) (h1:m≤3):Form 3 t m []
 | array {t:ByteArray} {m:Int} {y:Nd} (ht:lY t) (h0:0≤m) (h1:m≤3) (hy:y.kd=15):Form 3 t m [y]
 | proc {t:ByteArray} {m:Int} {ps:List Nd} {b:Nd} (ht:lY t) (h0:0≤m) (h1:m≤11) (hp:∀ y∈ps,y.kd=5) (hb:b.kd=6):Form 4 t m (ps ++ [b])
 | param {t:ByteArray} {m:Int} (ht:lY t) (h0:0≤m) (h1:m≤1):Form 5 t m []
 | block {l:List Nd} (hl:∀ y∈l,t_ y.kd):Form 6 aU 0 l
 | loc {t:ByteArray} {m:Int} {x:Nd} (ht:lY t) (h0:0≤m) (h1:m≤1) (hx:mF x.kd):Form 7 t m [x]
 | set {p x:Nd} (hp:UA p.kd) (hx:mF x.kd):Form 8 aU 0 [p,x]
 | do_ {c:Nd} (hc:c.kd=18):Form 9 aU 0 [c]
 | if2 {x b:Nd} (hx:mF x.kd) (hb:b.kd=6):Form 10 aU 0 [x,b]
 | if3 {x b c:Nd} (hx:mF x.kd) (hb:b.kd=6) (hc:c.kd=6):Form 10 aU 0 [x,b,c]
 | JV {x b:Nd} (hx:mF x.kd) (hb:b.kd=6):Form 11 aU 0 [x,b]
 | out {m:Int} {x:Nd} (h0:0≤m) (h1:m≤1) (hx:mF x.kd):Form 12 aU m [x]
 | inp {m:Int} {x:Nd} (h0:0≤m) (h1:m≤1) (hx:UA x.kd):Form 13 aU m [x]
 | ret {x:Nd} (hx:mF x.kd):Form 14 aU 0 [x]
 | num {m:Int} (h0:0≤m) (h1:m<9223372036854775808):Form 15 aU m []
 | name {t:ByteArray} (ht:rM t):Form 16 t 0 []
 | item {t:ByteArray} {x:Nd} (ht:rM t) (hx:mF x.kd):Form 17 t 0 [x]
 | call {t:ByteArray} {l:List Nd} (ht:rM t) (hl:∀ y∈l,mF y.kd):Form 18 t 0 l
 | op {m:Int} {x y:Nd} (h0:1≤m) (h1:m≤9) (hx:mF x.kd) (hy:mF y.kd):Form 19 aU m [x,y]
 | neg {x:Nd} (hx:mF x.kd):Form 20 aU 0 [x]
 | not_ {x:Nd} (hx:mF x.kd):Form 21 aU 0 [x]
inductive jw:Nd→Prop
 | mk {k:Int} {t:ByteArray} {m:Int} {l:List Nd} (hf:Form k t m l) (hl:∀ y∈l,jw y):jw (.mk k t m l)
theorem jw.form {k:Int} {t:ByteArray} {m:Int} {l:List Nd} (h:jw (.mk k t m l)):Form k t m l:=by cases h;assumption
theorem jw.kids {k:Int} {t:ByteArray} {m:Int} {l:List Nd} (h:jw (.mk k t m l)):∀ y∈l,jw y:=by cases h;assumption
namespace Rx
open ofm bF
theorem sZ {P:Nd→Prop} {x:Nd} (h:P x):∀ y∈[x],P y:=fun y hy=>by rw [List.mem_singleton] at hy;subst hy;exact h
theorem Gi {P:Nd→Prop} {x z:Nd} (h:P x) (h2:P z):∀ y∈[x,z],P y:=fun y hy=>by
 simp only [List.mem_cons,List.not_mem_nil,or_false] at hy;rcases hy with rfl|rfl
 ·exact h
 ·exact h2
theorem XR {P:Nd→Prop} {x z q:Nd} (h:P x) (h2:P z) (h3:P q):∀ y∈[x,z,q],P y:=fun y hy=>by
 simp only [List.mem_cons,List.not_mem_nil,or_false] at hy;rcases hy with rfl|rfl|rfl
 ·exact h
 ·exact h2
 ·exact h3
theorem snoc {P:Nd→Prop} {l:List Nd} {x:Nd} (h:∀ y∈l,P y) (hx:P x):∀ y∈l ++ [x],P y:=fun y hy=>by
 rw [List.mem_append,List.mem_singleton] at hy;rcases hy with hy|rfl
 ·exact h y hy
 ·exact hx
theorem mX {s:ByteArray} {l r:List Tk} (h:fH l=.got s r) (ho:∀ t∈l,jF t):lY s:=by
 cases l with
 | nil=>cases h
 | cons t q=>
  simp only [fH] at h;split at h
  ·rename_i hk
   injection h with h1 _
   subst h1;have hw:=(ho t (by simp)).word hk.1;unfold lY nameB;rw [hw,hk.2];rfl
  ·cases h
theorem tj {s:ByteArray} {l r:List Tk} (h:iL l=.got s r) (ho:∀ t∈l,jF t):rM s:=by
 unfold iL at h;obtain⟨a,l1,h1,h⟩:=ag h;have ha:=mX h1 ho;have h1o:=jq h1 ho;split at h
 ·obtain⟨b,l2,h2,h⟩:=ag h
  have hb:=mX h2 (bP h1o);injection h with h _
  exact .inr ⟨a,b,ha,hb,h.symm⟩
 ·injection h with h _
  subst h;exact .inl ha
theorem LQ {x:Nd} {l r:List Tk} (h:fD l=.got x r) (ho:∀ t∈l,jF t):jw x∧x.kd=15:=by
 obtain⟨t,ht,hk,rfl⟩:=LD h;have htl:t∈l:=List.mem_of_mem_head? ht;have:=((ho t htl).num hk).2.2;refine⟨.mk (.num (by unfold valOf;omega) (by unfold valOf;omega)) (fun y hy=>by cases hy),rfl⟩
theorem XS {s:ByteArray} {k:Nat} (h:(rI s).2=k):1≤(rI s).1∧(rI s).1≤9:=by
 unfold rI at h ⊢
 repeat' split
 all_goals first|decide|skip
 simp_all
def ag7:NT→Prop
 | .loop _ x=>jw x∧mF x.kd
 | .place s=>rM s
 | .call s=>rM s
 | .args s acc=>rM s∧∀ y∈acc,jw y∧mF y.kd
 | .stats acc=>∀ y∈acc,jw y∧t_ y.kd
 | .proc dR=>dR=0∨dR=2
 | .params s dR acc=>lY s∧(dR=0∨dR=2)∧∀ y∈acc,jw y∧y.kd=5
 | .imports s acc=>lY s∧∀ y∈acc,jw y∧y.kd=2
 | .decls s acc=>lY s∧∃ a b,acc=a++b∧(∀ y∈a,jw y∧y.kd=2)∧∀ y∈b,jw y∧(y.kd=3∨y.kd=4)
 | _=>True
def XT:NT→Int→Prop
 | .expr,k=>mF k
 | .bound _,k=>mF k
 | .loop _ _,k=>mF k
 | .unary,k=>mF k
 | .asked,k=>mF k
 | .place _,k=>UA k
 | .call _,k=>k=18
 | .args _ _,k=>k=18
 | .block,k=>k=6
 | .stats _,k=>k=6
 | .stat,k=>t_ k
 | .decl,k=>k=3∨k=4
 | .proc _,k=>k=4
 | .params _ _ _,k=>k=4
 | .module,k=>k=1
 | .imports _ _,k=>k=1
 | .decls _ _,k=>k=1
theorem PW {k:Int} (h:UA k):mF k:=by unfold UA at h;unfold mF;omega
theorem fst {P Q:Nd→Prop} {l:List Nd} (h:∀ y∈l,P y∧Q y):∀ y∈l,P y:=fun y hy=>(h y hy).1
theorem snd {P Q:Nd→Prop} {l:List Nd} (h:∀ y∈l,P y∧Q y):∀ y∈l,Q y:=fun y hy=>(h y hy).2
theorem mY {x y:Nd} {l r:List Tk} (h:kN x l=.got y r):y=x:=by
 unfold kN at h;obtain⟨_,_,_,h⟩:=ag h;injection h with h _
 exact h.symm
theorem TQ (n:Nat):∀ (X:NT) (l:List Tk) (x:Nd) (r:List Tk),(∀ t∈l,jF t)→ag7 X→bJ n X l=.got x r→jw x∧XT X x.kd:=by
 induction n with
 | zero=>intro X l x r _ _ h;cases X<;>cases h
 | succ n ih=>
  intro X l x r ho hp h;have sub:∀ {Y:NT} {l r:List Tk} {y:Nd},(∀ t∈l,jF t)→bJ n Y l=.got y r→∀ t∈r,jF t:=fun ho h=>Gg n _ _ _ _ ho h
  cases X with
  | expr=>simp only [bJ] at h;exact ih (.bound 0) _ _ _ ho trivial h
  | bound k=>
   simp only [bJ] at h;split at h
   ·exact ih .unary _ _ _ ho trivial h
   ·obtain⟨y,l1,h1,h⟩:=ag h
    have hy:=ih (.bound (k+1)) _ _ _ ho trivial h1;exact ih (.loop k y) _ _ _ (sub ho h1) hy h
  | loop k y=>
   simp only [bJ] at h;split at h
   ·rename_i hk
    obtain⟨z,l1,h1,h⟩:=ag h;have hz:=ih (.bound (k+1)) _ _ _ (bP ho) trivial h1;have hop:=XS hk.2;have hnew:jw (.mk 19 aU (rI (textOf l)).1 [y,z])∧mF (Nd.mk 19 aU (rI (textOf l)).1 [y,z]).kd:=⟨.mk (.op hop.1 hop.2 hp.2 hz.2) (Gi hp.1 hz.1),by show mF 19;unfold mF;omega⟩;split at h
    ·injection h with h _
     subst h;exact hnew
    ·exact ih (.loop k (.mk 19 aU (rI (textOf l)).1 [y,z])) _ _ _ (sub (bP ho) h1) hnew h
   ·injection h with h _
    subst h;exact hp
  | unary=>
   simp only [bJ] at h;split at h
   ·obtain⟨y,l1,h1,h⟩:=ag h
    have hy:=ih .unary _ _ _ (bP ho) trivial h1;injection h with h _
    subst h;exact⟨.mk (.neg hy.2) (sZ hy.1),by show mF 20;unfold mF;omega⟩
   ·split at h
    ·obtain⟨y,l1,h1,h⟩:=ag h
     have hy:=ih .unary _ _ _ (bP ho) trivial h1;injection h with h _
     subst h;exact⟨.mk (.not_ hy.2) (sZ hy.1),by show mF 21;unfold mF;omega⟩
    ·split at h
     ·exact ih .asked _ _ _ ho trivial h
     ·split at h
      ·obtain⟨h1,h2⟩:=LQ h ho
       exact⟨h1,by show mF x.kd;rw [h2];unfold mF;omega⟩
      ·obtain⟨s,l1,h1,h⟩:=ag h
       have hs:=tj h1 ho;have ho1:=sV (oG h1) ho;split at h
       ·obtain⟨h2,h3⟩:=ih (.call s) _ _ _ ho1 hs h
        exact⟨h2,by show mF x.kd;rw [show x.kd=18 from h3];unfold mF;omega⟩
       ·obtain⟨h2,h3⟩:=ih (.place s) _ _ _ ho1 hs h
        exact⟨h2,PW h3⟩
  | asked=>
   simp only [bJ] at h;obtain⟨_,l1,h1,h⟩:=ag h;obtain⟨y,l2,h2,h⟩:=ag h;obtain⟨_,l3,h3,h⟩:=ag h;injection h with h _
   subst h;exact ih .expr _ _ _ (gV h1 ho) trivial h2
  | place s=>
   simp only [bJ] at h;split at h
   ·obtain⟨y,l1,h1,h⟩:=ag h
    have hy:=ih .expr _ _ _ (bP ho) trivial h1;obtain⟨_,l2,h2,h⟩:=ag h;injection h with h _
    subst h;exact⟨.mk (.item hp hy.2) (sZ hy.1),.inr rfl⟩
   ·injection h with h _
    subst h;exact⟨.mk (.name hp) (fun y hy=>by cases hy),.inl rfl⟩
  | call s=>
   simp only [bJ] at h;obtain⟨_,l1,h1,h⟩:=ag h;exact ih (.args s []) _ _ _ (gV h1 ho) ⟨hp,fun y hy=>by cases hy⟩ h
  | args s acc=>
   obtain⟨hs,ha⟩:=hp;simp only [bJ] at h;split at h
   ·obtain⟨_,l1,h1,h⟩:=ag h
    injection h with h _
    subst h;exact⟨.mk (.call hs (snd ha)) (fst ha),rfl⟩
   ·obtain⟨y,l1,h1,h⟩:=ag h
    have hy:=ih .expr _ _ _ ho trivial h1;have ho1:=sub ho h1;split at h
    ·exact ih (.args s (acc ++ [y])) _ _ _ (bP ho1) ⟨hs,snoc ha hy⟩ h
    ·obtain⟨_,l2,h2,h⟩:=ag h
     injection h with h _
     subst h;exact⟨.mk (.call hs (snoc (snd ha) hy.2)) (snoc (fst ha) hy.1),rfl⟩
  | block=>
   simp only [bJ] at h;obtain⟨_,l1,h1,h⟩:=ag h;exact ih (.stats []) _ _ _ (gV h1 ho) (fun y hy=>by cases hy) h
  | stats acc=>
   simp only [bJ] at h;split at h
   ·injection h with h _
    subst h;exact⟨.mk (.block (snd hp)) (fst hp),rfl⟩
   ·obtain⟨y,l1,h1,h⟩:=ag h
    have hy:=ih .stat _ _ _ ho trivial h1;exact ih (.stats (acc ++ [y])) _ _ _ (sub ho h1) (snoc hp hy) h
  | stat=>
   simp only [bJ] at h;split at h
   ·obtain⟨b,l1,h1,h⟩:=ag h
    obtain⟨s,l2,h2,h⟩:=ag h;obtain⟨_,l3,h3,h⟩:=ag h;obtain⟨y,l4,h4,h⟩:=ag h;have hb:=lX h1;have ho1:=mV h1 ho;have ho2:=jq h2 ho1;have ho3:=gV h3 ho2;have hy:=ih .expr _ _ _ ho3 trivial h4;rw [mY h];exact⟨.mk (.loc (mX h2 ho1) hb.1 hb.2 hy.2) (sZ hy.1),by show t_ 7;unfold t_;omega⟩
   ·split at h
    ·obtain⟨s,l1,h1,h⟩:=ag h
     obtain⟨y,l2,h2,h⟩:=ag h;have hy:=ih (.call s) _ _ _ (sV (oG h1) (bP ho)) (tj h1 (bP ho)) h2;rw [mY h];exact⟨.mk (.do_ hy.2) (sZ hy.1),by show t_ 9;unfold t_;omega⟩
    ·split at h
     ·obtain⟨y,l1,h1,h⟩:=ag h
      have hy:=ih .asked _ _ _ (bP ho) trivial h1;have ho1:=sub (bP ho) h1;obtain⟨b,l2,h2,h⟩:=ag h;have hb:=ih .block _ _ _ ho1 trivial h2;have ho2:=sub ho1 h2;split at h
      ·obtain⟨c,l3,h3,h⟩:=ag h
       have hc:=ih .block _ _ _ (bP ho2) trivial h3;injection h with h _
       subst h;exact⟨.mk (.if3 hy.2 hb.2 hc.2) (XR hy.1 hb.1 hc.1),by show t_ 10;unfold t_;omega⟩
      ·injection h with h _
       subst h;exact⟨.mk (.if2 hy.2 hb.2) (Gi hy.1 hb.1),by show t_ 10;unfold t_;omega⟩
     ·split at h
      ·obtain⟨y,l1,h1,h⟩:=ag h
       have hy:=ih .asked _ _ _ (bP ho) trivial h1;have ho1:=sub (bP ho) h1;obtain⟨b,l2,h2,h⟩:=ag h;have hb:=ih .block _ _ _ ho1 trivial h2;injection h with h _
       subst h;exact⟨.mk (.JV hy.2 hb.2) (Gi hy.1 hb.1),by show t_ 11;unfold t_;omega⟩
      ·split at h
       ·obtain⟨b,l1,h1,h⟩:=ag h
        obtain⟨y,l2,h2,h⟩:=ag h;have hb:=lX h1;have hy:=ih .expr _ _ _ (mV h1 (bP ho)) trivial h2;rw [mY h];exact⟨.mk (.out hb.1 hb.2 hy.2) (sZ hy.1),by show t_ 12;unfold t_;omega⟩
       ·split at h
        ·obtain⟨b,l1,h1,h⟩:=ag h
         obtain⟨s,l2,h2,h⟩:=ag h;obtain⟨y,l3,h3,h⟩:=ag h;have hb:=lX h1;have ho1:=mV h1 (bP ho);have hy:=ih (.place s) _ _ _ (sV (oG h2) ho1) (tj h2 ho1) h3;rw [mY h];exact⟨.mk (.inp hb.1 hb.2 hy.2) (sZ hy.1),by show t_ 13;unfold t_;omega⟩
        ·split at h
         ·obtain⟨y,l1,h1,h⟩:=ag h
          have hy:=ih .expr _ _ _ (bP ho) trivial h1;rw [mY h];exact⟨.mk (.ret hy.2) (sZ hy.1),by show t_ 14;unfold t_;omega⟩
         ·obtain⟨s,l1,h1,h⟩:=ag h
          obtain⟨p,l2,h2,h⟩:=ag h;obtain⟨_,l3,h3,h⟩:=ag h;obtain⟨y,l4,h4,h⟩:=ag h;have ho1:=sV (oG h1) ho;have hq:=ih (.place s) _ _ _ ho1 (tj h1 ho) h2;have hy:=ih .expr _ _ _ (gV h3 (sub ho1 h2)) trivial h4;rw [mY h];exact⟨.mk (.set hq.2 hy.2) (Gi hq.1 hy.1),by show t_ 8;unfold t_;omega⟩
  | decl=>
   simp only [bJ] at h;have Pe:∀ {b:Bool},(if b=true then (2:Int) else 0)=0∨(if b=true then (2:Int) else 0)=2:=by intro b;cases b<;>simp
   have ho0:∀ t∈(if fK l [sN]=true then l.tail else l),jF t:=by split;exact bP ho;exact ho
   generalize (if fK l [sN]=true then l.tail else l)=l0 at h ho0;have hpb:=@Pe (fK l [sN]);generalize (if fK l [sN]=true then (2:Int) else 0)=pb at h hpb;split at h
   ·obtain⟨h1,h2⟩:=ih (.proc pb) _ _ _ (bP ho0) hpb h
    exact⟨h1,.inr h2⟩
   ·obtain⟨b,l1,h1,h⟩:=ag h
    obtain⟨s,l2,h2,h⟩:=ag h;have hb:=lX h1;have ho1:=mV h1 ho0;have hs:=mX h2 ho1;have ho2:=jq h2 ho1;split at h
    ·obtain⟨y,l3,h3,h⟩:=ag h
     obtain⟨_,l4,h4,h⟩:=ag h;have hy:=LQ h3 (bP ho2);rw [mY h];exact⟨.mk (.array hs (by omega) (by omega) hy.2) (sZ hy.1),.inl rfl⟩
    ·rw [mY h]
     exact⟨.mk (.var hs (by omega) (by omega)) (fun y hy=>by cases hy),.inl rfl⟩
  | proc dR=>
   simp only [bJ] at h;obtain⟨s,l1,h1,h⟩:=ag h;obtain⟨_,l2,h2,h⟩:=ag h;exact ih (.params s dR []) _ _ _ (gV h2 (jq h1 ho)) ⟨mX h1 ho,hp,fun y hy=>by cases hy⟩ h
  | params s dR acc=>
   obtain⟨hs,hpb,ha⟩:=hp
   have hdone:∀ (acc:List Nd) (l:List Tk),(∀ y∈acc,jw y∧y.kd=5)→(∀ t∈l,jF t)→((dY dN l).bind fun _ l=>(dG l).bind fun b l=>
     if fK l [oZ]=true then (dG l.tail).bind fun g l=>(bJ n .block l).bind fun x l=>.got (.mk 4 s (dR+b+(4+4*g)) (acc ++ [x])) l
     else (bJ n .block l).bind fun x l=>.got (.mk 4 s (dR+b) (acc ++ [x])) l)=Out.got x r→jw x∧x.kd=4:=by
    intro acc l hacc ho h;obtain⟨_,l1,h1,h⟩:=ag h;have ho1:=gV h1 ho;obtain⟨b,l2,hb,h⟩:=ag h;have ho2:=mV hb ho1;have hb:=lX hb;split at h
    ·obtain⟨g,l3,hg,h⟩:=ag h
     have ho3:=mV hg (bP ho2);have hg:=lX hg;obtain⟨y,l4,h4,h⟩:=ag h;have hy:=ih .block _ _ _ ho3 trivial h4;injection h with h1 _
     subst h1;exact⟨.mk (.proc hs (by omega) (by omega) (snd hacc) hy.2) (snoc (fst hacc) hy.1),rfl⟩
    ·obtain⟨y,l4,h4,h⟩:=ag h
     have hy:=ih .block _ _ _ ho2 trivial h4;injection h with h1 _
     subst h1;exact⟨.mk (.proc hs (by omega) (by omega) (snd hacc) hy.2) (snoc (fst hacc) hy.1),rfl⟩
   simp only [bJ] at h;split at h
   ·exact hdone _ _ ha ho h
   ·obtain⟨b,l1,h1,h⟩:=ag h
    obtain⟨p,l2,h2,h⟩:=ag h;have ho1:=mV h1 ho;have hpn:=mX h2 ho1;have ho2:=jq h2 ho1;have hb:=lX h1;have C7:∀ q∈acc ++ [Nd.mk 5 p b []],jw q∧q.kd=5:=snoc ha ⟨.mk (.param hpn hb.1 hb.2) (fun y hy=>by cases hy),rfl⟩;split at h
    ·exact ih (.params s dR (acc ++ [.mk 5 p b []])) _ _ _ (bP ho2) ⟨hs,hpb,C7⟩ h
    ·exact hdone _ _ C7 ho2 h
  | module=>
   simp only [bJ] at h;obtain⟨_,l1,h1,h⟩:=ag h;obtain⟨s,l2,h2,h⟩:=ag h;obtain⟨_,l3,h3,h⟩:=ag h;have ho1:=gV h1 ho;have ho2:=jq h2 ho1;exact ih (.imports s []) _ _ _ (gV h3 ho2) ⟨mX h2 ho1,fun y hy=>by cases hy⟩ h
  | imports s acc=>
   obtain⟨hs,ha⟩:=hp;simp only [bJ] at h;split at h
   ·obtain⟨p,l1,h1,h⟩:=ag h
    obtain⟨_,l2,h2,h⟩:=ag h;have ho1:=jq h1 (bP ho);exact ih (.imports s (acc ++ [.mk 2 p 0 []])) _ _ _ (gV h2 ho1) ⟨hs,snoc ha ⟨.mk (.imp (mX h1 (bP ho))) (fun y hy=>by cases hy),rfl⟩⟩ h
   ·exact ih (.decls s acc) _ _ _ ho ⟨hs,acc,[],by simp,ha,fun y hy=>by cases hy⟩ h
  | decls s acc=>
   obtain⟨hs,a,b,rfl,ha,hb⟩:=hp;simp only [bJ] at h;split at h
   ·injection h with h _
    subst h;refine⟨.mk (.module hs (snd ha) (snd hb)) (fun y hy=>?_),rfl⟩
    rcases List.mem_append.1 hy with hy|hy
    ·exact(ha y hy).1
    ·exact(hb y hy).1
   ·obtain⟨y,l1,h1,h⟩:=ag h
    have hy:=ih .decl _ _ _ ho trivial h1;exact ih (.decls s (a++b ++ [y])) _ _ _ (sub ho h1) ⟨hs,a,b ++ [y],by rw [List.append_assoc],ha,snoc hb hy⟩ h
end Rx
theorem wQ (s:ByteArray) (h:(aJ s).2.1=0):jw (aJ s).1∧(aJ s).1.kd=1∧U8 (aJ s).1≤16∧fL (aJ s).1≤500:=by
 unfold aJ at h ⊢;obtain⟨T,hT⟩:∃ T,iP s.data.toList=T:=⟨_,rfl⟩;rw [hT] at h ⊢;obtain⟨ts,c,a⟩:=T;simp only at h ⊢;by_cases hc:c=0
 ·subst hc
  obtain⟨-,hok,-⟩:=LO.xN s ts a hT;rw [if_pos rfl] at h ⊢;cases hp:bJ (20*ts.length+5) .module (lD s ts) with
  | out=>exact absurd hp (bF.ER _ _ _ (by simp [lD,NT.rank]))
  | bad l=>rw [hp] at h;exact absurd (show (2:Int)=0 from h) (by decide)
  | got x r=>
   rw [hp] at h;simp only at h ⊢;by_cases hw:(fA 16 x 0).1=true
   ·rw [if_pos hw] at h ⊢
    have h1:=Rx.TQ _ .module _ _ _ hok trivial hp;have h2:=(yY 16 x 0 (by omega)).1.1 hw;exact⟨h1.1,h1.2,h2.1,by show fL x≤500;omega⟩
   ·rw [if_neg hw] at h
    exact absurd (show (1:Int)=0 from h) (by decide)
 ·rw [if_neg hc] at h
  exact absurd h hc
end Go.Proofs.YtpcihajmcejliacGreatDoor
namespace Go.Proofs.YtpcihajmcejliacGreatDoor
open Go.RowKit
def XU (all:Bool) (l:List Nd):List eY:=(dP l).filter fun v=>all || v.dR
def XV (all:Bool) (l:List Nd):List aI:=(aP l).filter fun p=>all || p.dR
def CX (all:Bool) (x:Nd):aQ:=⟨x.tx,XU all x.kids,XV all x.kids⟩
def gZ:aQ:=⟨⟨#[]⟩,[],[]⟩
def jg (s:ByteArray):aQ×List ByteArray×Int×Int:=
 if (aJ s).2.1=0 then
  (if (gQ (aJ s).1.tx (aJ s).1.kids [] [] 1).1=0 then (CX false (aJ s).1,dK (aJ s).1.kids,0,0)
  else (gZ,[],(gQ (aJ s).1.tx (aJ s).1.kids [] [] 1).1,((gQ (aJ s).1.tx (aJ s).1.kids [] [] 1).2:Nat)))
 else (gZ,[],(aJ s).2.1,(aJ s).2.2)
namespace ZT
open cG
def TS (w:World) (R:aQ×List ByteArray×Int×Int) (e:Ending) (w':World):Prop:=
 Ext w w'∧∃ vF vI,e=.returned (.tuple #[vF,vI,.agg #[.int .i64 R.2.2.1,.int .i64 R.2.2.2]])∧fE w' R.1 vF∧kJ 1 jo R.2.1 vI w'
theorem look_ok (m:ByteArray):∀ (l:List Nd) (I L:List (List UInt8)) (p:Nat),(gQ m l I L p).1=0→(gQ m l I L p).2=0:=by
 intro l;induction l with
 | nil=>intro I L p _;rfl
 | cons x r ih=>
  intro I L p h;simp only [gQ] at h ⊢;split
  ·rename_i h1
   rw [if_pos h1] at h;split
   ·rename_i h2;rw [if_pos h2] at h;exact absurd (show (5:Int)=0 from h) (by decide)
   ·rename_i h2
    rw [if_neg h2] at h;split
    ·rename_i h3;rw [if_pos h3] at h;exact absurd (show (5:Int)=0 from h) (by decide)
    ·rename_i h3
     rw [if_neg h3] at h;split
     ·rename_i h4;rw [if_pos h4] at h;exact absurd (show (1:Int)=0 from h) (by decide)
     ·rename_i h4;rw [if_neg h4] at h;exact ih _ _ _ h
  ·rename_i h1
   rw [if_neg h1] at h;split
   ·rename_i h2;rw [if_pos h2] at h;exact absurd (show (5:Int)=0 from h) (by decide)
   ·rename_i h2
    rw [if_neg h2] at h;split
    ·rename_i h3;rw [if_pos h3] at h;exact absurd (show (1:Int)=0 from h) (by decide)
    ·rename_i h3
     rw [if_neg h3] at h;split
     ·rename_i h4;rw [if_pos h4] at h;exact ih _ _ _ h
     ·rename_i h4;rw [if_neg h4] at h;exact absurd h h4
theorem Ap:∀ (f:Nat) (l:List UInt8) (p:Nat) (acc:List Tok),(fM f l p acc).2.1=0→(fM f l p acc).2.2=0:=by
 intro f;induction f with
 | zero=>intro l p acc _;rfl
 | succ f ih=>
  intro l p acc h;simp only [fM] at h ⊢;split
  ·rename_i h1
   rw [if_pos h1] at h;split
   ·rename_i h2
    rw [if_pos h2] at h;exact ih _ _ _ h
   ·rename_i h2
    rw [if_neg h2] at h;exact absurd h h2
  ·rfl
theorem IC {l:List UInt8} (h:(iP l).2.1=0):(iP l).2.2=0:=by
 unfold iP at h ⊢;split
 ·rename_i h1
  rw [if_pos h1] at h
 ·rename_i h1
  rw [if_neg h1] at h;exact Ap _ _ _ _ h
theorem Lt (s:ByteArray) (h:(aJ s).2.1=0):(∀ y∈(aJ s).1.kids,qi y)∧fL (aJ s).1≤500∧(aJ s).2.2=0:=by
 unfold aJ at h ⊢;obtain⟨T,hT⟩:∃ T,iP s.data.toList=T:=⟨_,rfl⟩;have hz:=IC (l:=s.data.toList);rw [hT] at h hz ⊢;obtain⟨ts,c,a⟩:=T;simp only at h ⊢;by_cases hc:c=0
 ·subst hc
  obtain⟨-,hok,-⟩:=LO.xN s ts a hT;rw [if_pos rfl] at h ⊢;cases hp:bJ (20*ts.length+5) .module (lD s ts) with
  | out=>rw [hp] at h;exact⟨fun y hy=>(by cases hy),(by decide:fL kH≤500),rfl⟩
  | bad l=>rw [hp] at h;exact absurd (show (2:Int)=0 from h) (by decide)
  | got x r=>
   rw [hp] at h;simp only at h ⊢;by_cases hw:(fA 16 x 0).1=true
   ·rw [if_pos hw] at h ⊢
    obtain⟨m,kids,rfl,hk⟩:=ofm.Iw _ _ _ _ hok hp;have h2:=((yY 16 _ 0 (by omega)).1.1 hw).2;exact⟨hk,by show fL (Nd.mk 1 m 0 kids)≤500;omega,by have:a=0:=hz rfl;subst this;rfl⟩
   ·rw [if_neg hw] at h
    exact absurd (show (1:Int)=0 from h) (by decide)
 ·rw [if_neg hc] at h
  exact absurd h hc
end ZT
end Go.Proofs.YtpcihajmcejliacGreatDoor
namespace Go.Proofs.YtpcihajmcejliacGreatDoor
open Go.RowKit Go.WideMaps Go.Maps
def pK (n:Int):Bool:=n == 0 || n == 1
def Hr (v:eY):Bool:=v.dR&&pK v.label&&decide (0≤v.size)&&decide (v.size≤64)
def yM (p:aI):Bool:=p.dR&&decide (p.params.length≤5)&&pK p.writes&&pK p.given&&(p.gives || p.given == 0)&&p.params.all pK
def eY.key (v:eY):List UInt8:=v.name.data.toList
def aI.key (p:aI):List UInt8:=p.name.data.toList
def aQ.keys (f:aQ):List (List UInt8):=f.vars.map eY.key++f.procs.map aI.key
def gI:List (List UInt8)→Bool
 | []=>true
 | x::r=>!r.contains x&&gI r
def nY (f:aQ):Bool:=
 nameB f.modn.data.toList&&decide (f.vars.length+f.procs.length≤20)&&f.vars.all Hr&&f.procs.all yM&&f.keys.all nameB&&gI f.keys
namespace face
theorem qJ (l:List (List UInt8)) (x:List UInt8):gI (l ++ [x])=(gI l && !l.contains x):=by
 induction l with
 | nil=>simp [gI]
 | cons y r ih=>
  have e1:(r ++ [x]).contains y=(r.contains y || decide (y=x)):=by
   rw [Bool.eq_iff_iff];simp
  have e2:(y::r).contains x=(decide (y=x) || r.contains x):=by
   rw [List.contains_cons,Bool.eq_iff_iff];simp only [Bool.or_eq_true,beq_iff_eq,decide_eq_true_eq];constructor
   ·rintro (h|h)
    ·exact .inl h.symm
    ·exact .inr h
   ·rintro (h|h)
    ·exact .inl h.symm
    ·exact .inr h
  simp only [List.cons_append,gI,ih,e1,e2];cases r.contains y<;>cases r.contains x<;>cases gI r<;>cases decide (y=x)<;>rfl
def BJ {H:Type} (D:DataW H) (L:List (List UInt8)):Prop:=
 (∀ s,has D (.string s)=L.contains s)∧Maps.size D≤L.length∧(gI L=decide (Maps.size D=L.length))
theorem Hv {H:Type}:BJ (.map []:DataW H) []:=⟨fun _=>rfl,Nat.le_refl _,rfl⟩
theorem yO {H:Type} {D:DataW H} {L:List (List UInt8)} (h:BJ D L) (ht:Tidy D) (x:List UInt8) (d:DataW H):BJ (D.put (.string x) d) (L ++ [x]):=by
 obtain⟨h1,h2,h3⟩:=h;have hk:WideAt.IsKeyLit (.string x):=by trivial
 have hsz:=size_put ht (k:=.string x) d;refine⟨fun s=>?_,?_,?_⟩
 ·by_cases hs:s=x
  ·subst hs
   rw [has_put_same ht.isMap hk];simp
  ·rw [has_put_other (by simpa using hs),h1]
   simp [hs]
 ·rw [hsz,List.length_append]
  simp
  split<;>omega
 ·rw [qJ,h3,hsz,h1 x]
  simp only [List.length_append,List.length_singleton];cases hc:L.contains x
  ·simp
  ·simp;omega
theorem wX {α : Type} (p:α→Bool) (l:List α) (k:Nat) (h:k<l.length):(l.take (k+1)).all p=((l.take k).all p&&p l[k]):=by
 rw [List.take_succ_eq_append_getElem h,List.all_append,List.all_cons,List.all_nil,Bool.and_true]
theorem zV {α : Type} {p:α→Bool} {l:List α} {k:Nat} (h:k<l.length) (hp:p l[k]=false):l.all p=false:=by
 rw [Bool.eq_false_iff];intro ha;rw [List.all_eq_true] at ha;rw [ha _ (List.getElem_mem h)] at hp;cases hp
theorem uj {α : Type} {p:α→Bool} {l:List α} {k:Nat} (h:l.length=k) (hp:(l.take k).all p=true):l.all p=true:=by
 rw [List.take_of_length_le (by omega)] at hp;exact hp
end face
end Go.Proofs.YtpcihajmcejliacGreatDoor
namespace Go.Proofs.YtpcihajmcejliacGreatDoor
open Go.RowKit
structure nD where
 (loc:Int) (modn name:ByteArray) (label size:Int)
inductive Tr where
 | mk (kind num:Int) (kids:List Tr) (ref:nD) (label ctx:Int)
def Tr.kd:Tr→Int
 | .mk k _ _ _ _ _=>k
def Tr.nm:Tr→Int
 | .mk _ m _ _ _ _=>m
def Tr.kids:Tr→List Tr
 | .mk _ _ l _ _ _=>l
def Tr.ref:Tr→nD
 | .mk _ _ _ r _ _=>r
def Tr.lab:Tr→Int
 | .mk _ _ _ _ b _=>b
def Tr.ctx:Tr→Int
 | .mk _ _ _ _ _ c=>c
def gq:nD:=⟨0,aU,aU,0,0⟩
instance:Inhabited Tr:=⟨.mk 0 0 [] gq 0 0⟩
structure Loc where
 (name:ByteArray) (label deep:Int)
structure dI where
 (own:aQ) (known:List (ByteArray×aQ))
inductive Rz (α : Type) where
 | bad (c:Int) (p:Nat)
 | ok (x:α)
def Rz.bind {α β : Type} (r:Rz α) (f:α→Rz β):Rz β:=match r with
 | .bad c p=>.bad c p
 | .ok x=>f x
def dW (z:Int) (ls:List Int):Bool:=ls.all fun l=>decide (z=1) || decide (l=0)
def Gs (t:ByteArray):ByteArray×ByteArray×Bool:=(⟨(Lib.cut t.data.toList [46]).1.toArray⟩,⟨(Lib.cut t.data.toList [46]).2.1.toArray⟩,(Lib.cut t.data.toList [46]).2.2)
def bU (L:List (ByteArray×aQ)) (s:ByteArray):Option aQ:=match L with
 | []=>none
 | (x,f)::r=>if x=s then some f else bU r s
def kQ (E:dI) (t:ByteArray):aQ×ByteArray×Bool:=
 if (Gs t).2.2=false then (E.own,t,true) else ((bU E.known (Gs t).1).getD gZ,(Gs t).2.1,(bU E.known (Gs t).1).isSome)
def uX (L:List Loc) (t:ByteArray):Nat→Option (Nat×Loc)
 | 0=>none
 | n+1=>match L[n]? with
  | some l=>if l.name=t then some (n,l) else uX L t n
  | none=>uX L t n
def yD (l:List eY) (s:ByteArray):Option eY:=l.find? fun v=>decide (v.name=s)
def oI (l:List aI) (s:ByteArray):Option aI:=l.foldl (fun o p=>if p.name=s then some p else o) none
def vY (E:dI) (L:List Loc) (t:ByteArray) (at_:Nat):Rz nD:=
 match uX L t L.length with
 | some (i,l)=>.ok ⟨(i:Nat),aU,aU,l.label,0⟩
 | none=>if (kQ E t).2.2=true then (match yD (kQ E t).1.vars (kQ E t).2.1 with
   | some v=>.ok ⟨-1,(kQ E t).1.modn,(kQ E t).2.1,v.label,v.size⟩
   | none=>.bad 4 at_) else .bad 4 at_
def lK:List Int→List Tr→Bool
 | p::ps,k::ks=>dW p [k.lab]&&lK ps ks
 | _,_=>true
def FB (fm s:ByteArray) (ctx:Int) (alone:Bool) (ks:List Tr) (at_:Nat):Option aI→Rz (nD×Int)
 | none=>.bad 4 at_
 | some p=>if p.params.length≠ks.length then .bad 6 at_ else if (p.gives || alone)=false then .bad 3 at_
  else if lK p.params ks=false then .bad 7 at_ else if dW p.writes [ctx]=false then .bad 7 at_
  else .ok (⟨-1,fm,s,0,0⟩,p.given)
def rV (E:dI) (ctx:Int) (alone:Bool) (t:ByteArray) (ks:List Tr) (at_:Nat):Rz (nD×Int):=
 FB (kQ E t).1.modn (kQ E t).2.1 ctx alone ks at_ (if (kQ E t).2.2=true then oI (kQ E t).1.procs (kQ E t).2.1 else none)
def joinL (ks:List Tr):Int:=ks.foldl (fun a y=>iM a y.lab) 0
def ve (E:dI) (L:List Loc) (ctx:Int) (alone:Bool) (k:Int) (t:ByteArray) (m:Int) (ks:List Tr) (at_:Nat):Rz Tr:=
 if k=16∨k=17 then (vY E L t at_).bind fun r=>if decide (0<r.size)=decide (k=17) then .ok (.mk k m ks r (iM (joinL ks) r.label) ctx) else .bad 3 at_
 else if k=18 then (rV E ctx alone t ks at_).bind fun r=>.ok (.mk k m ks r.1 r.2 ctx)
 else .ok (.mk k m ks gq (joinL ks) ctx)
mutual
def x_ (E:dI) (L:List Loc) (ctx:Int):Bool→Nd→Nat→Rz Tr
 | alone,.mk k t m l,at_=>(qZ E L ctx l (at_+1)).bind fun ks=>ve E L ctx alone k t m ks at_
def qZ (E:dI) (L:List Loc) (ctx:Int):List Nd→Nat→Rz (List Tr)
 | [],_=>.ok []
 | x::r,at_=>(x_ E L ctx false x at_).bind fun y=>(qZ E L ctx r (at_+fL x)).bind fun ys=>.ok (y::ys)
end
def iF (x:Tr):Int:=if x.kd=17 then (x.kids.headD default).lab else 0
def uZ (pr:aI) (L:List Loc) (deep ctx:Int) (last:Bool) (k:Int) (t:ByteArray) (m:Int) (ks:List Tr) (at_:Nat):Rz (Tr×List Loc):=
 if k=7 then
  if (L.any fun l=>decide (l.deep=deep)&&decide (l.name=t))=true then .bad 5 at_
  else if 20≤L.length then .bad 1 at_
  else if dW m [(ks.headD default).lab,ctx]=false then .bad 7 at_
  else .ok (.mk k m ks ⟨(L.length:Nat),aU,aU,m,0⟩ 0 ctx,L ++ [⟨t,m,deep⟩])
 else if k=8 then
  if dW (ks.headD default).ref.label [((ks.tail).headD default).lab,iF (ks.headD default),ctx]=false then .bad 7 at_ else .ok (.mk k m ks gq 0 ctx,L)
 else if k=12 then
  if dW m [(ks.headD default).lab,ctx]=false then .bad 7 at_ else .ok (.mk k m ks gq 0 ctx,L)
 else if k=13 then
  if dW m [ctx]=false then .bad 7 at_ else if dW (ks.headD default).ref.label [m,iF (ks.headD default),ctx]=false then .bad 7 at_ else .ok (.mk k m ks gq 0 ctx,L)
 else if k=14 then
  if (last&&pr.gives)=false then .bad 2 at_ else if dW pr.given [(ks.headD default).lab]=false then .bad 7 at_ else .ok (.mk k m ks gq 0 ctx,L)
 else .ok (.mk k m ks gq 0 ctx,L)
mutual
def FI (E:dI) (pr:aI) (ctx:Int) (last:Bool):List Loc→Int→Nd→Nat→Rz (Tr×List Loc)
 | L,deep,.mk k t m l,at_=>(kT E pr ctx (decide (k=9)) L deep l none (at_+1)).bind fun ks=>uZ pr L deep ctx last k t m ks at_
/-- a statement's kids; the label of the first -/
def kT (E:dI) (pr:aI) (ctx:Int) (alone:Bool):List Loc→Int→List Nd→Option Int→Nat→Rz (List Tr)
 | _,_,[],_,_=>.ok []
 | L,deep,x::r,b,at_=>(if x.kd=6 then zC E pr (iM ctx (b.getD 0)) false L (deep+1) x at_ else x_ E L ctx alone x at_).bind fun y=>
   (kT E pr ctx alone L deep r (some (b.getD y.lab)) (at_+fL x)).bind fun ys=>.ok (y::ys)
def zC (E:dI) (pr:aI) (ctx:Int) (outer:Bool):List Loc→Int→Nd→Nat→Rz Tr
 | L,deep,.mk k _ _ l,at_=>(wJ E pr ctx outer L deep l (at_+1)).bind fun ks=>.ok (.mk k 0 ks gq 0 ctx)
def wJ (E:dI) (pr:aI) (ctx:Int) (outer:Bool):List Loc→Int→List Nd→Nat→Rz (List Tr)
 | _,_,[],_=>.ok []
 | L,deep,x::r,at_=>(FI E pr ctx (outer&&r.isEmpty) L deep x at_).bind fun y=>(wJ E pr ctx outer y.2 deep r (at_+fL x)).bind fun ys=>.ok (y.1::ys)
end
def sD (ps:List Nd):List Loc:=ps.map fun p=>⟨p.tx,p.nm,1⟩
def uK (E:dI) (pr:aI) (x:Nd) (at_:Nat):Rz Tr:=
 (zC E pr pr.writes true (sD x.kids.dropLast) 1 (x.kids.getLastD kH) (at_+1+x.kids.dropLast.length)).bind fun b=>
  if (pr.gives && !(match (x.kids.getLastD kH).kids.getLast? with
   | some s=>decide (s.kd=14)
   | none=>false))=true then .bad 2 at_ else .ok b
def iy (own:aQ) (G:List (ByteArray×aQ)):List Nd→List (ByteArray×aQ)→List aI→List (aI×Tr)→Nat→Rz (List (ByteArray×aQ)×List (aI×Tr))
 | [],K,_,B,_=>.ok (K,B)
 | x::r,K,ps,B,at_=>
  if x.kd=2 then (match bU G x.tx with
   | none=>.bad 4 at_
   | some f=>iy own G r (K ++ [(x.tx,f)]) ps B (at_+1))
  else if x.kd=3 then iy own G r K ps B (at_+(1+x.kids.length))
  else match ps with
   | []=>.bad 0 at_
   | p::q=>(uK ⟨own,K⟩ p x at_).bind fun b=>iy own G r K q (B ++ [(p,b)]) (at_+fL x)
def oQ:List aQ→List (ByteArray×aQ)→Option (List (ByteArray×aQ))
 | [],G=>some G
 | f::r,G=>if (bU G f.modn).isSome=true∨nY f=false then none else oQ r (G ++ [(f.modn,f)])
def kX (s:ByteArray) (l:List aQ):Rz (Nd×List (ByteArray×aQ)×List (aI×Tr)):=
 match oQ l [] with
 | none=>.bad 2 0
 | some G=>if (jg s).2.2.1=0 then
   (iy ⟨(aJ s).1.tx,dP (aJ s).1.kids,aP (aJ s).1.kids⟩ G (aJ s).1.kids [] (aP (aJ s).1.kids) [] 1).bind fun r=>.ok ((aJ s).1,r)
  else .bad (jg s).2.2.1 (jg s).2.2.2.toNat
end Go.Proofs.YtpcihajmcejliacGreatDoor
namespace Go.Proofs.YtpcihajmcejliacGreatDoor
open Go.RowKit
namespace ord
inductive qP (α : Type) where
 | ok (a:α)
 | no (m:Nat) (c:Int)
def qP.bind {α β : Type} (x:qP α) (f:α→qP β):qP β:=match x with
 | .ok a=>f a
 | .no m c=>.no m c
theorem qP.bind_ok {α β : Type} {x:qP α} {f:α→qP β} {b:β} (h:x.bind f=.ok b):∃ a,x=.ok a∧f a=.ok b:=by
 cases x with
 | ok a=>exact⟨a,rfl,h⟩
 | no m c=>cases h
def iz (s:ByteArray):ByteArray:=(aJ s).1.tx
def ig (s:ByteArray):List ByteArray:=dK (aJ s).1.kids
def jB:List ByteArray→Nat→qP Unit
 | [],_=>.ok ()
 | s::r,i=>if (jg s).2.2.1=0 then jB r (i+1) else .no i (jg s).2.2.1
def namesT:List ByteArray→Nat→List (ByteArray×Int)→qP (List (ByteArray×Int))
 | [],_,L=>.ok L
 | s::r,i,L=>if (dD L (iz s)).isSome=true then .no i 5 else namesT r (i+1) (L ++ [(iz s,(i:Int))])
def jC (L:List (ByteArray×Int)):List ByteArray→Nat→qP Unit
 | [],_=>.ok ()
 | s::r,i=>if (dD L s).isSome=true then jC L r i else .no i 4
def f_ (L:List (ByteArray×Int)):List ByteArray→Nat→qP Unit
 | [],_=>.ok ()
 | s::r,i=>(jC L (ig s) i).bind fun _=>f_ L r (i+1)
def inB (out:List Int) (x:Int):Bool:=out.any fun y=>decide (x=y)
def nK (L:List (ByteArray×Int)) (ts:List ByteArray) (out:List Int) (i:Nat):Bool:=((ig (ts.getD i ⟨#[]⟩)).all fun s=>inB out ((dD L s).getD 0)) && !inB out i
def lT (L:List (ByteArray×Int)) (ts:List ByteArray) (out:List Int):Nat→Nat→Option Nat
 | 0,_=>none
 | k+1,i=>if nK L ts out i=true then some i else lT L ts out k (i+1)
def lC (out:List Int):Nat→Nat→Option Nat
 | 0,_=>none
 | k+1,i=>if inB out i=true then lC out k (i+1) else some i
def iC (L:List (ByteArray×Int)) (ts:List ByteArray):Nat→List Int→qP (List Int)
 | 0,out=>.ok out
 | k+1,out=>match lT L ts out ts.length 0 with
  | some i=>iC L ts k (out ++ [(i:Int)])
  | none=>match lC out ts.length 0 with
   | some i=>.no i 3
   | none=>.ok out
def uM (L:List (ByteArray×Int)) (ts:List ByteArray) (s:ByteArray):List aQ:=(ig s).map fun t=>(jg (ts.getD ((dD L t).getD 0).toNat ⟨#[]⟩)).1
def yK {α : Type}:Rz α→Int
 | .ok _=>0
 | .bad c _=>c
def ij (L:List (ByteArray×Int)) (ts:List ByteArray):List Int→qP Unit
 | []=>.ok ()
 | i::r=>if yK (kX (ts.getD i.toNat ⟨#[]⟩) (uM L ts (ts.getD i.toNat ⟨#[]⟩)))=0 then ij L ts r else .no i.toNat (yK (kX (ts.getD i.toNat ⟨#[]⟩) (uM L ts (ts.getD i.toNat ⟨#[]⟩))))
def uS:ByteArray:=⟨#[109,97,105,110]⟩
def jU (p:aI):Bool:=decide (p.name=uS)&&p.dR&&decide (p.params.length=0)&&decide (p.writes=0) && !p.gives
def qj (L:List (ByteArray×Int)) (ts:List ByteArray):qP Unit:=match dD L uS with
 | none=>.no 0 4
 | some i=>if ((aP (aJ (ts.getD i.toNat ⟨#[]⟩)).1.kids).any jU)=true then .ok () else .no 0 4
def jD (ts:List ByteArray):qP (List Int):=if 1≤ts.length∧ts.length≤6 then
  (jB ts 0).bind fun _=>(namesT ts 0 []).bind fun L=>(f_ L ts 0).bind fun _=>(iC L ts ts.length []).bind fun O=>(ij L ts O).bind fun _=>(qj L ts).bind fun _=>.ok O
 else .no 0 1
end ord
end Go.Proofs.YtpcihajmcejliacGreatDoor
