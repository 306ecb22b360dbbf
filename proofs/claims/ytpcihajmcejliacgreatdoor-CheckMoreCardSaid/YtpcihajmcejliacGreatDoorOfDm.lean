/- The walk of syntax.Parse. What form a node has that a text is read as, in plain Lean. How many nodes one has: the program's weight and the reference's Weight. A row in a cell grows by one, in a region that draws its order: what is known on the way. Two rows that grow side by side: variables, and procedures whose parameters lie in rows of their own. What the face of a text is, in plain Lean; what a call that tells it comes to. -/
import Derived.Deep.CutBlock
import Derived.Deep.DeepCutAuto
import Derived.Deep.LoopGhost
import Derived.Deep.AppendLies
import Derived.Test.YtpcihajmcejliacGreatDoorSynKm
import Derived.Test.YtpcihajmcejliacGreatDoorSyn3m
import Derived.Test.YtpcihajmcejliacGreatDoorSynCm
namespace Go.Proofs.YtpcihajmcejliacGreatDoor
open Go.RowKit
def jf:Nd:=.mk 0 aS 0 []
def aT (s:ByteArray):Nd×Int×Int:=
 if (iP s.data.toList).2.1=0 then
  match bJ (20*(iP s.data.toList).1.length+5) .module (kL s (iP s.data.toList).1) with
  | .got x _=>if (eX 16 x 0).1=true then (x,0,(iP s.data.toList).2.2) else (jf,1,0)
  | .bad l=>(jf,2,posOf s.size l)
  | .out=>(jf,0,0)
 else (jf,(iP s.data.toList).2.1,(iP s.data.toList).2.2)
namespace bn
def qK (w:World) (R:Nd×Int×Int) (e:Ending) (w':World):Prop:=Ext w w'∧∃ v,e=.returned (.tuple #[v,.agg #[.int .i64 R.2.1,.int .i64 R.2.2]])∧fE (hide (below w.heap.size) w') R.1 v
structure PI (w u:World) (R F:Nat) (a b c d f0 f1:Value) (x:Nd):Prop where
 r:aH u R #[a,b,c,d] 24
 f:aH u F #[f0,f1] 27
 ext:Ext w u
 nd:fE (hide (below (F+1)) u) x (.agg #[a,b,c,d])
 hR:w.heap.size≤R
 oM:R<F
theorem PI.drew {w u:World} {R F:Nat} {a b c d f0 f1:Value} {x:Nd} (h:PI w u R F a b c d f0 f1 x):PI w u.drew R F a b c d f0 f1 x:=⟨h.r.drew,h.f.drew,h.ext.drew,o_ h.nd (aB.refl (fun _=>False) u).drew (fun _ h=>h.elim),h.hR,h.oM⟩
theorem PI.Jw {w u:World} {R F:Nat} {a b c d f0 f1:Value} {x:Nd} (h:PI w u R F a b c d f0 f1 x):PI w ((((u.setCell ⟨R,0,none⟩ a).setCell ⟨R,1,none⟩ b).setCell ⟨R,2,none⟩ c).setCell ⟨R,3,none⟩ d) R F a b c d f0 f1 x:=by
 have h1:=h.hR;have h2:=h.oM
 have hC:aB (fun i=>i=R) u ((((u.setCell ⟨R,0,none⟩ a).setCell ⟨R,1,none⟩ b).setCell ⟨R,2,none⟩ c).setCell ⟨R,3,none⟩ d):=ak (ak (ak (ak (aB.refl _ _) 0 a) 1 b) 2 c) 3 d;exact⟨(((h.r.set 0 a).set 1 b).set 2 c).set 3 d,h.f.aO hC (by omega),h.ext.trans hC (fun i hi e=>by omega),o_ h.nd hC (fun i e=>by omega),h1,h2⟩
theorem PI.Jy {w u:World} {R F:Nat} {a b c d f0 f1:Value} {x:Nd} (h:PI w u R F a b c d f0 f1 x):PI w ((u.setCell ⟨F,0,none⟩ f0).setCell ⟨F,1,none⟩ f1) R F a b c d f0 f1 x:=by
 have h1:=h.hR;have h2:=h.oM
 have hC:aB (fun i=>i=F) u ((u.setCell ⟨F,0,none⟩ f0).setCell ⟨F,1,none⟩ f1):=ak (ak (aB.refl _ _) 0 f0) 1 f1;exact⟨h.r.aO hC (by omega),(h.f.set 0 f0).set 1 f1,h.ext.trans hC (fun i hi e=>by omega),o_ h.nd hC (fun i e=>by omega),h1,h2⟩
theorem PI.post {w u:World} {R F:Nat} {a b c d:Value} {f0 f1:Int} {x:Nd} {Q:Nd×Int×Int} (h:PI w u R F a b c d (.int .i64 f0) (.int .i64 f1) x) (hQ:Q=(x,f0,f1)):qK w Q (.returned (.tuple #[.agg #[a,b,c,d],.agg #[.int .i64 f0,.int .i64 f1]])) u:=by
 subst hQ;have h1:=h.hR;have h2:=h.oM
 exact⟨h.ext,_,rfl,aJ (aZ (Nat.le_refl _) fun i hi hm=>⟨by simp [below] at hm ⊢;omega,rfl⟩) _ _ h.nd⟩
set_option maxRecDepth 100000 in
set_option maxHeartbeats 8000000 in
theorem Dn (s:ByteArray) (w:World) (hs:s.size≤9223372036854775807) (hv:ErrVar w) (hm:dw w) :
  Calls Tryz.prog 15 #[.string s] w (qK w (aT s)):=by
 obtain⟨Q,hQ⟩:∃ Q,aT s=Q:=⟨_,rfl⟩;rw [hQ];unfold aT at hQ;obtain⟨T,hT⟩:∃ T,iP s.data.toList=T:=⟨_,rfl⟩;rw [hT] at hQ;have NH:=Z_ hT;obtain⟨ts,c,a⟩:=T;simp only at hQ;have HQ:=Z_ hQ;obtain⟨R,hR⟩:∃ R,w.heap.size=R:=⟨_,rfl⟩;obtain⟨F,hF⟩:∃ F,R+1=F:=⟨_,rfl⟩;have hR0:=(aH.made w #[.int .i64 0,.string ⟨#[]⟩,.int .i64 0,.slice none 0 0] 24).alloc (.cells #[.int .i64 0,.int .i64 0] 27);have kY:=aH.made2 w (.cells #[.int .i64 0,.string ⟨#[]⟩,.int .i64 0,.slice none 0 0] 24) #[.int .i64 0,.int .i64 0] 27;rw [hR] at hR0 kY;rw [hF] at kY;have oH:=((aB.refl (fun _=>False) w).alloc (.cells #[.int .i64 0,.string ⟨#[]⟩,.int .i64 0,.slice none 0 0] 24)).alloc (.cells #[.int .i64 0,.int .i64 0] 27);have HC:=Z_ (lexTells.Bi s _ hs (hv.ext oH) (ts,c,a) (Z_ hT))
 have HM:=Z_ (fun (u:World) (hE:Ext w u)=>hm.ext hE);have oM:R<F:=by omega
 have HR0:=Z_ hR0;have pM:=Z_ kY;have HX0:=Z_ oH;have hmf:∀ (fn:Fn) (first cap:Array Value) (w:World),(Instr.makeFunc fn first cap).run Tryz.prog w=.ok (.func fn first cap) w:=fun _ _ _ _=>rfl
 clear hv hm hT hQ hR0 kY oH;go_enter_defers Tryz.func15,Tryz.ntmps15
 go_upto_region 1 with (fail)
 try rw [hF]
 generalize (w.alloc (.cells #[.int .i64 0,.string ⟨#[]⟩,.int .i64 0,.slice none 0 0] 24)).alloc (.cells #[.int .i64 0,.int .i64 0] 27)=u0 at *;go_wp2_with fail
 refine HC.out.mono ?_
 rintro e w1 ⟨v,rfl,ho,hE1⟩;have HO:=Z_ ho;have hR1:=HR0.out.ext hE1;have hF1:=pM.out.ext hE1;have hX1:=HX0.out.ext hE1;have hsz1:F+1≤w1.heap.size:=by have:=pM.out.lt;have:=hE1.size;omega
 have hc:=hF1.cell;have hf:=hF1.frozen;have hl:=hF1.lt
 have U8:PI w ((w1.setCell ⟨F,0,none⟩ (.int .i64 c)).setCell ⟨F,1,none⟩ (.int .i64 a)) R F (.int .i64 0) (.string ⟨#[]⟩) (.int .i64 0) (.slice none 0 0) (.int .i64 c) (.int .i64 a) jf:=
  ⟨(hR1.setOther (p:=⟨F,0,none⟩) (by show R≠F;omega) _).setOther (p:=⟨F,1,none⟩) (by show R≠F;omega) _,(hF1.set 0 _).set 1 _,(hX1.bI (p:=⟨F,0,none⟩) (by show w.heap.size≤F;omega) _).bI (p:=⟨F,1,none⟩) (by show w.heap.size≤F;omega) _,jX _ _ _ _ (by decide),by omega,oM⟩
 have hO2:=tV (tV ho (p:=⟨F,0,none⟩) (by intro k hk;have:=(World.ownsRow.lt ho k hk).1;have:=pM.out.lt;show k≠F;omega) (.int .i64 c)) (p:=⟨F,1,none⟩) (by intro k hk;have:=(World.ownsRow.lt ho k hk).1;have:=pM.out.lt;show k≠F;omega) (.int .i64 a);have SI:=Z_ hO2;have lS:=Z_ U8;clear ho hR1 hF1 hX1 U8 hO2 hE1 HC HO HR0 pM HX0;go_upto_region 2 with (fail)
 clear hc hf hl;have ae9:F+1≤((w1.setCell ⟨F,0,none⟩ (.int .i64 c)).setCell ⟨F,1,none⟩ (.int .i64 a)).heap.size:=by simpa using hsz1
 generalize (w1.setCell ⟨F,0,none⟩ (.int .i64 c)).setCell ⟨F,1,none⟩ (.int .i64 a)=u1 at *;clear hsz1;have hc:=lS.out.f.cell;by_cases hc0:c=0
 ·subst hc0
  have hQ2:=HQ.out;rw [if_pos rfl] at hQ2;have oK:=Z_ hQ2;obtain⟨hs3,hok,htl⟩:=Jz.wC s ts a NH.out;obtain⟨ta,tc,rfl,htk⟩:=Jz.Qp SI.out hok;obtain⟨X3,U9⟩:∃ q,ts.length=q:=⟨_,rfl⟩;rw [U9] at htl SI;have HLT:=Z_ U9;clear hQ2 HQ hok;rw [U9];obtain⟨S,hS⟩:∃ S,u1.heap.size=S:=⟨_,rfl⟩
  have Qn:bu u1 (u1.alloc (.cells #[.slice ta X3 tc,.int .i64 0,.int .i64 (s.size:Nat)] 108)) S s.size (kL s ts):=by
   refine⟨⟨ta,X3,tc,0,?_,by simp [kL,U9],by omega,htk⟩,(aB.refl _ _).alloc _,by omega⟩
   rw [←hS];exact aH.made u1 _ _
  have HN:=Z_ (JA (20*ts.length+5) .module _ _ Qn (HM.out u1 lS.out.ext) rfl trivial (bC.Dz _ _ _ (by simp [kL,NT.rank])));have hne:=bC.Dz (20*ts.length+5) .module (kL s ts) (by simp [kL,NT.rank]);have ig:=Z_ hne;have hE2:=(aB.refl (fun _=>False) u1).alloc (.cells #[.slice ta X3 tc,.int .i64 0,.int .i64 (s.size:Nat)] 108);have HR2:=Z_ (lS.out.r.ext hE2);have HF2:=Z_ (lS.out.f.ext hE2);have rY:=Z_ (lS.out.ext.ext hE2);have hSF:F<S:=by omega
  clear Qn hne hE2 htk;rw [U9] at HN ig oK;go_upto_region 6 with (fail)
  try rw [hS]
  clear hc;generalize u1.alloc (.cells #[.slice ta X3 tc,.int .i64 0,.int .i64 (s.size:Nat)] 108)=u2 at *;go_wp2_with fail
  refine HN.out.mono ?_
  rintro e w3 hr;obtain⟨hC,⟨lb,hp,rfl⟩|⟨x,lx,v,hp,rfl,hvx,hP⟩⟩:=hr.cases ig.out
  ·have Ei:=Z_ (show Q=(jf,2,posOf s.size lb) by have:=oK.out;rw [hp] at this;exact this.symm)
   have FP:=HR2.out.aO hC (by omega);have hF3:=HF2.out.aO hC (by omega);have AU:=rY.out.trans hC (fun i hi e=>by have:=lS.out.ext.size;omega);clear hr hp hC HN;go_wp2_with fail
   refine leaves_cons (f:=47) (args:=#[.pointer (some ⟨R,0,none⟩),.pointer (some ⟨F,0,none⟩)]) (by simp) (by simp [go_sem]) ?_
   refine(BG R F _ _ _ _ FP rfl hF3 rfl (by omega)).mono ?_
   rintro e u' w'' ⟨rfl,rfl,Eg,Eh,FC⟩;exact⟨_,jq rfl _ _ rfl Eg Tryz.underlying24 rfl (by kernel_rfl) rfl Eh Tryz.underlying27 rfl (by kernel_rfl),(⟨Eg,Eh,AU.trans FC fun i hi e=>by omega,jX _ _ _ _ (by decide),by omega,oM⟩:PI w w'' R F _ _ _ _ _ _ jf).post Ei.out⟩
  ·have Ei:=Z_ (show (if (eX 16 x 0).1=true then (x,(0:Int),(a:Int)) else (jf,1,0))=Q by have:=oK.out;rw [hp] at this;exact this)
   have FP:=HR2.out.aO hC (by omega);have hF3:=HF2.out.aO hC (by omega);have AU:=rY.out.trans hC (fun i hi e=>by have:=lS.out.ext.size;omega);have hsz3:=hC.size;have hu2:=hr.1.size;obtain⟨kx,tx,mx,ax,nx,cx,rfl⟩:=bU hvx;have hSu:=lS.out.ext.size;have ae_:F+1≤u2.heap.size:=by have:=HF2.out.lt;omega
   have U_:fE (hide (below (F+1)) w3) x (.agg #[.int .i64 kx,.string tx,.int .i64 mx,.slice ax nx cx]):=Bg hvx (by omega)
   have Va:PI w ((((w3.setCell ⟨R,0,none⟩ (.int .i64 kx)).setCell ⟨R,1,none⟩ (.string tx)).setCell ⟨R,2,none⟩ (.int .i64 mx)).setCell ⟨R,3,none⟩ (.slice ax nx cx)) R F (.int .i64 kx) (.string tx) (.int .i64 mx) (.slice ax nx cx) (.int .i64 0) (.int .i64 a) x:=by
    have hCC:aB (fun i=>i=R) w3 ((((w3.setCell ⟨R,0,none⟩ (.int .i64 kx)).setCell ⟨R,1,none⟩ (.string tx)).setCell ⟨R,2,none⟩ (.int .i64 mx)).setCell ⟨R,3,none⟩ (.slice ax nx cx)):=ak (ak (ak (ak (aB.refl _ _) 0 _) 1 _) 2 _) 3 _;exact⟨(((FP.set 0 _).set 1 _).set 2 _).set 3 _,hF3.aO hCC (by omega),AU.trans hCC (fun i hi e=>by omega),o_ U_ hCC (fun i e=>by omega),by omega,oM⟩
   have hc:=FP.cell;have hf:=FP.frozen;have hl:=FP.lt;clear hr hp hC HN hvx U_ FP hF3 AU lS HR2 HF2 rY;have lS:=Z_ Va;clear Va;go_upto_region 7 with (fail)
   clear hc hf hl;generalize (((w3.setCell ⟨R,0,none⟩ (.int .i64 kx)).setCell ⟨R,1,none⟩ (.string tx)).setCell ⟨R,2,none⟩ (.int .i64 mx)).setCell ⟨R,3,none⟩ (.slice ax nx cx)=u4 at *;obtain⟨M,hM⟩:∃ M,u4.heap.size=M:=⟨_,rfl⟩;have CJ:=(aB.refl (fun _=>False) u4).alloc (.cells #[.int .i64 0] 3);have af0:=lS.out.f.lt
   have Qq:PI w (u4.alloc (.cells #[.int .i64 0] 3)) R F (.int .i64 kx) (.string tx) (.int .i64 mx) (.slice ax nx cx) (.int .i64 0) (.int .i64 a) x:=
    ⟨lS.out.r.ext CJ,lS.out.f.ext CJ,lS.out.ext.ext CJ,aJ (aC CJ fun _ _ h=>h.elim) _ _ lS.out.nd,by omega,oM⟩
   have hM4:aH (u4.alloc (.cells #[.int .i64 0] 3)) M #[.int .i64 (0:Nat)] 3:=by rw [←hM];exact aH.made u4 _ _
   have Qr:fE (hide (fun i=>below (F+1) i || decide (i=M)) (u4.alloc (.cells #[.int .i64 0] 3))) x (.agg #[.int .i64 kx,.string tx,.int .i64 mx,.slice ax nx cx]):=by
    refine aJ (aZ (by simp) fun i hi hm=>?_) _ _ lS.out.nd
    refine⟨?_,Below.heap_alloc _ _ _ hi⟩
    rw [hm,Bool.false_or,decide_eq_false_iff_not];omega
   have HW:=Z_ (Gp 16 x _ _ M 0 1 _ Qr (by simp) hM4 (by decide) (by decide) (by decide));have hrc:=Qq.r.cell;generalize eX 16 x 0=WF at *;clear lS;have lS:=Z_ Qq;have hMF:F<M:=by omega
   have GV:=Z_ Qr;clear Qq hM4 Qr CJ;go_upto_region 8 with (fail)
   try rw [hM]
   generalize u4.alloc (.cells #[.int .i64 0] 3)=u5 at *;go_wp2_with fail
   refine HW.out.mono ?_
   rintro e w6 ⟨rfl,yQ,R_⟩;have hu5:=lS.out.ext.size
   have Vd:PI w w6 R F (.int .i64 kx) (.string tx) (.int .i64 mx) (.slice ax nx cx) (.int .i64 0) (.int .i64 a) x:=
    ⟨lS.out.r.aO yQ (by omega),lS.out.f.aO yQ (by omega),lS.out.ext.trans yQ (fun i hi e=>by have:=lS.out.hR;omega),(aJ (aZ (Nat.le_refl _) fun i hi hm=>⟨by simp only [Bool.or_eq_false_iff] at hm;exact hm.1,rfl⟩) _ _ (aJ (aC yQ fun i _ e=>by rw [e];simp) _ _ GV.out)),by omega,oM⟩
   clear lS;have lS:=Z_ Vd;clear Vd yQ R_ HW hrc;obtain⟨wb,wm⟩:=WF;cases wb with
   | true=>
    have Rf:=Z_ (show Q=(x,(0:Int),(a:Int)) by have:=Ei.out;rw [if_pos rfl] at this;exact this.symm);have hdrop:=GV;clear hdrop GV;go_upto_region 10 with (fail)
    refine ah [2,3] (fun i v _=>v=([.agg #[.int .i64 kx,.string tx,.int .i64 mx,.slice ax nx cx],.agg #[.int .i64 0,.int .i64 a],undef,undef]:List Value).getD i undef) (fun _ u=>PI w u R F (.int .i64 kx) (.string tx) (.int .i64 mx) (.slice ax nx cx) (.int .i64 0) (.int .i64 a) x) (fun _ _=>True) (frame:=?Ah) (fun x=>?oQ) mixed (by kernel_rfl) (by kernel_rfl) (fun _ _ _ _ h _=>h) ?Ai ?Aj ?oU
    case oQ=>
     simp only [chain.aK,chain.fill,chain.bf,chain.aW,jJ,jK,jL,jM,jO,jP,jQ,jR,jS];exact rfl
    case Ai=>exact lS.out.drew
    case Aj=>
     iterate 4 (refine ai.cons (fun x vs u hF hm hb hd K' hK'=>?_) ?_;rotate_left)
     exact ai.nil
     ·have hc:=hF.r.cell;have HF:=Z_ hF;clear hd hm hb hF;go_simp;exact hK'.out _ _ _ rfl trivial ⟨rfl,HF.out⟩
     ·have hc:=hF.f.cell;have HF:=Z_ hF;clear hd hm hb hF;go_simp;exact hK'.out _ _ _ rfl trivial ⟨rfl,HF.out⟩
     ·have y0:x 30=.agg #[.int .i64 kx,.string tx,.int .i64 mx,.slice ax nx cx]:=(D_ hd 0 :);have hc:=hF.r.cell;have hf:=hF.r.frozen;have hl:=hF.r.lt;have HF:=Z_ hF;clear hd hm hb hF;go_simp;exact hK'.out _ _ undef (by simp only [y0];rfl) trivial HF.out.Jw
     ·have y0:x 31=.agg #[.int .i64 0,.int .i64 a]:=(D_ hd 1 :);have hc:=hF.f.cell;have hf:=hF.f.frozen;have hl:=hF.f.lt;have HF:=Z_ hF;clear hd hm hb hF;go_simp;exact hK'.out _ _ undef (by simp only [y0];rfl) trivial HF.out.Jy
    case oU=>
     intro x vs w9 hl hF hk;have mN:=Z_ hF;clear hk hl hF;go_wp2_with fail
     refine leaves_cons (f:=47) (args:=#[.pointer (some ⟨R,0,none⟩),.pointer (some ⟨F,0,none⟩)]) (by simp) (by simp [go_sem]) ?_
     refine(wE R F _).mono ?_
     rintro e u' w'' ⟨rfl,rfl,rfl⟩;exact⟨_,jq rfl _ _ rfl mN.out.r Tryz.underlying24 rfl (by kernel_rfl) rfl mN.out.f Tryz.underlying27 rfl (by kernel_rfl),mN.out.post Rf.out⟩
   | false=>
    have Rf:=Z_ (show Q=(jf,1,0) by have:=Ei.out;simp only [Bool.false_eq_true,↓reduceIte] at this;exact this.symm);have hrc:=lS.out.r.cell;have hrf:=lS.out.r.frozen;have hrl:=lS.out.r.lt;have hfc:=lS.out.f.cell;have IC:=lS.out.f.frozen;have hfl:=lS.out.f.lt;have hCR:aB (fun i=>i=R) w6 ((((w6.setCell ⟨R,0,none⟩ (.int .i64 0)).setCell ⟨R,1,none⟩ (.string ⟨#[]⟩)).setCell ⟨R,2,none⟩ (.int .i64 0)).setCell ⟨R,3,none⟩ (.slice none 0 0)):=ak (ak (ak (ak (aB.refl _ _) 0 _) 1 _) 2 _) 3 _
    have Qs:PI w ((((w6.setCell ⟨R,0,none⟩ (.int .i64 0)).setCell ⟨R,1,none⟩ (.string ⟨#[]⟩)).setCell ⟨R,2,none⟩ (.int .i64 0)).setCell ⟨R,3,none⟩ (.slice none 0 0)) R F (.int .i64 0) (.string ⟨#[]⟩) (.int .i64 0) (.slice none 0 0) (.int .i64 0) (.int .i64 a) jf:=
     ⟨(((lS.out.r.set 0 _).set 1 _).set 2 _).set 3 _,lS.out.f.aO hCR (by omega),lS.out.ext.trans hCR (fun i hi e=>by have:=lS.out.hR;omega),jX _ _ _ _ (by decide),lS.out.hR,oM⟩
    have Ve:PI w ((((((w6.setCell ⟨R,0,none⟩ (.int .i64 0)).setCell ⟨R,1,none⟩ (.string ⟨#[]⟩)).setCell ⟨R,2,none⟩ (.int .i64 0)).setCell ⟨R,3,none⟩ (.slice none 0 0)).setCell ⟨F,0,none⟩ (.int .i64 1)).setCell ⟨F,1,none⟩ (.int .i64 0)) R F (.int .i64 0) (.string ⟨#[]⟩) (.int .i64 0) (.slice none 0 0) (.int .i64 1) (.int .i64 0) jf:=
     ⟨(Qs.r.setOther (p:=⟨F,0,none⟩) (by show R≠F;omega) _).setOther (p:=⟨F,1,none⟩) (by show R≠F;omega) _,(Qs.f.set 0 _).set 1 _,(Qs.ext.bI (p:=⟨F,0,none⟩) (by show w.heap.size≤F;have:=Qs.hR;omega) _).bI (p:=⟨F,1,none⟩) (by show w.heap.size≤F;have:=Qs.hR;omega) _,jX _ _ _ _ (by decide),Qs.hR,oM⟩
    have Vf:=Z_ Ve;clear Qs Ve hCR;go_wp2_with fail
    refine leaves_cons (f:=47) (args:=#[.pointer (some ⟨R,0,none⟩),.pointer (some ⟨F,0,none⟩)]) (by simp) (by simp [go_sem]) ?_
    refine(wE R F _).mono ?_
    rintro e u' w'' ⟨rfl,rfl,rfl⟩;exact⟨_,jq rfl _ _ rfl Vf.out.r Tryz.underlying24 rfl (by kernel_rfl) rfl Vf.out.f Tryz.underlying27 rfl (by kernel_rfl),Vf.out.post Rf.out⟩
 ·have oK:=Z_ (show Q=(jf,c,(a:Int)) by have:=HQ.out;rw [if_neg hc0] at this;exact this.symm)
  have hcn:(c != 0)=true:=by simpa using hc0
  clear HQ;go_upto_region 3 with (fail)
  refine ah [2,3] (fun i v _=>v=([.agg #[.int .i64 0,.string ⟨#[]⟩,.int .i64 0,.slice none 0 0],.agg #[.int .i64 c,.int .i64 a],undef,undef]:List Value).getD i undef) (fun _ u=>PI w u R F (.int .i64 0) (.string ⟨#[]⟩) (.int .i64 0) (.slice none 0 0) (.int .i64 c) (.int .i64 a) jf) (fun _ _=>True) (frame:=?Bd) (fun x=>?o7) mixed (by kernel_rfl) (by kernel_rfl) (fun _ _ _ _ h _=>h) ?Be ?Bf ?o8
  case o7=>
   simp only [chain.aK,chain.fill,chain.bf,chain.aW,jJ,jK,jL,jM,jO,jP,jQ,jR,jS];exact rfl
  case Be=>exact lS.out.drew
  case Bf=>
   iterate 4 (refine ai.cons (fun x vs u hF hm hb hd K' hK'=>?_) ?_;rotate_left)
   exact ai.nil
   ·have hc:=hF.r.cell;have HF:=Z_ hF;clear hd hm hb hF;go_simp;exact hK'.out _ _ _ rfl trivial ⟨rfl,HF.out⟩
   ·have hc:=hF.f.cell;have HF:=Z_ hF;clear hd hm hb hF;go_simp;exact hK'.out _ _ _ rfl trivial ⟨rfl,HF.out⟩
   ·have y0:x 15=.agg #[.int .i64 0,.string ⟨#[]⟩,.int .i64 0,.slice none 0 0]:=(D_ hd 0 :);have hc:=hF.r.cell;have hf:=hF.r.frozen;have hl:=hF.r.lt;have HF:=Z_ hF;clear hd hm hb hF;go_simp;exact hK'.out _ _ undef (by simp only [y0];rfl) trivial HF.out.Jw
   ·have y0:x 16=.agg #[.int .i64 c,.int .i64 a]:=(D_ hd 1 :);have hc:=hF.f.cell;have hf:=hF.f.frozen;have hl:=hF.f.lt;have HF:=Z_ hF;clear hd hm hb hF;go_simp;exact hK'.out _ _ undef (by simp only [y0];rfl) trivial HF.out.Jy
  case o8=>
   intro x vs w9 hl hF hk;have mN:=Z_ hF;clear hk hl hF;go_wp2_with fail
   exact⟨_,jq rfl _ _ rfl mN.out.r Tryz.underlying24 rfl (by kernel_rfl) rfl mN.out.f Tryz.underlying27 rfl (by kernel_rfl),mN.out.post oK.out⟩
end bn
end Go.Proofs.YtpcihajmcejliacGreatDoor
namespace Go.Proofs.YtpcihajmcejliacGreatDoor
open Go.RowKit
def lF (t:ByteArray):Prop:=nameB t.data.toList=true
def qP (t:ByteArray):Prop:=lF t∨∃ a b,lF a∧lF b∧t=a++(Gf++b)
def lN (k:Int):Prop:=15≤k∧k≤21
def Rt (k:Int):Prop:=k=16∨k=17
def sG (k:Int):Prop:=7≤k∧k≤14
inductive Form:Int→ByteArray→Int→List Nd→Prop
 | module {t:ByteArray} {a b:List Nd} (ht:lF t) (ha:∀ y∈a,y.kd=2) (hb:∀ y∈b,y.kd=3∨y.kd=4):Form 1 t 0 (a++b)
 | imp {t:ByteArray} (ht:lF t):Form 2 t 0 []
 | var {t:ByteArray} {m:Int} (ht:lF t) (h0:0≤m) (h1:m≤3):Form 3 t m []
 | array {t:ByteArray} {m:Int} {y:Nd} (ht:lF t) (h0:0≤m) (h1:m≤3) (hy:y.kd=15):Form 3 t m [y]
 | proc {t:ByteArray} {m:Int} {ps:List Nd} {b:Nd} (ht:lF t) (h0:0≤m) (h1:m≤11) (hp:∀ y∈ps,y.kd=5) (hb:b.kd=6):Form 4 t m (ps ++ [b])
 | param {t:ByteArray} {m:Int} (ht:lF t) (h0:0≤m) (h1:m≤1):Form 5 t m []
 | block {l:List Nd} (hl:∀ y∈l,sG y.kd):Form 6 aS 0 l
 | loc {t:ByteArray} {m:Int} {x:Nd} (ht:lF t) (h0:0≤m) (h1:m≤1) (hx:lN x.kd):Form 7 t m [x]
 | set {p x:Nd} (hp:Rt p.kd) (hx:lN x.kd):Form 8 aS 0 [p,x]
 | do_ {c:Nd} (hc:c.kd=18):Form 9 aS 0 [c]
 | if2 {x b:Nd} (hx:lN x.kd) (hb:b.kd=6):Form 10 aS 0 [x,b]
 | if3 {x b c:Nd} (hx:lN x.kd) (hb:b.kd=6) (hc:c.kd=6):Form 10 aS 0 [x,b,c]
 | Ii {x b:Nd} (hx:lN x.kd) (hb:b.kd=6):Form 11 aS 0 [x,b]
 | out {m:Int} {x:Nd} (h0:0≤m) (h1:m≤1) (hx:lN x.kd):Form 12 aS m [x]
 | inp {m:Int} {x:Nd} (h0:0≤m) (h1:m≤1) (hx:Rt x.kd):Form 13 aS m [x]
 | ret {x:Nd} (hx:lN x.kd):Form 14 aS 0 [x]
 | num {m:Int} (h0:0≤m) (h1:m<9223372036854775808):Form 15 aS m []
 | name {t:ByteArray} (ht:qP t):Form 16 t 0 []
 | item {t:ByteArray} {x:Nd} (ht:qP t) (hx:lN x.kd):Form 17 t 0 [x]
 | call {t:ByteArray} {l:List Nd} (ht:qP t) (hl:∀ y∈l,lN y.kd):Form 18 t 0 l
 | op {m:Int} {x y:Nd} (h0:1≤m) (h1:m≤9) (hx:lN x.kd) (hy:lN y.kd):Form 19 aS m [x,y]
 | neg {x:Nd} (hx:lN x.kd):Form 20 aS 0 [x]
 | not_ {x:Nd} (hx:lN x.kd):Form 21 aS 0 [x]
inductive jk:Nd→Prop
 | mk {k:Int} {t:ByteArray} {m:Int} {l:List Nd} (hf:Form k t m l) (hl:∀ y∈l,jk y):jk (.mk k t m l)
theorem jk.form {k:Int} {t:ByteArray} {m:Int} {l:List Nd} (h:jk (.mk k t m l)):Form k t m l:=by cases h;assumption
theorem jk.kids {k:Int} {t:ByteArray} {m:Int} {l:List Nd} (h:jk (.mk k t m l)):∀ y∈l,jk y:=by cases h;assumption
namespace Pv
open ofm bC
theorem rM {P:Nd→Prop} {x:Nd} (h:P x):∀ y∈[x],P y:=fun y hy=>by rw [List.mem_singleton] at hy;subst hy;exact h
theorem Ez {P:Nd→Prop} {x z:Nd} (h:P x) (h2:P z):∀ y∈[x,z],P y:=fun y hy=>by
 simp only [List.mem_cons,List.not_mem_nil,or_false] at hy;rcases hy with rfl|rfl
 ·exact h
 ·exact h2
theorem Vg {P:Nd→Prop} {x z q:Nd} (h:P x) (h2:P z) (h3:P q):∀ y∈[x,z,q],P y:=fun y hy=>by
 simp only [List.mem_cons,List.not_mem_nil,or_false] at hy;rcases hy with rfl|rfl|rfl
 ·exact h
 ·exact h2
 ·exact h3
theorem snoc {P:Nd→Prop} {l:List Nd} {x:Nd} (h:∀ y∈l,P y) (hx:P x):∀ y∈l ++ [x],P y:=fun y hy=>by
 rw [List.mem_append,List.mem_singleton] at hy;rcases hy with hy|rfl
 ·exact h y hy
 ·exact hx
theorem lY {s:ByteArray} {l r:List Tk} (h:fJ l=.got s r) (ho:∀ t∈l,jm t):lF s:=by
 cases l with
 | nil=>cases h
 | cons t q=>
  simp only [fJ] at h;split at h
  ·rename_i hk
   injection h with h1 _
   subst h1;have hw:=(ho t (by simp)).word hk.1;unfold lF nameB;rw [hw,hk.2];rfl
  ·cases h
theorem rO {s:ByteArray} {l r:List Tk} (h:iL l=.got s r) (ho:∀ t∈l,jm t):qP s:=by
 unfold iL at h;obtain⟨a,l1,h1,h⟩:=ag h;have ha:=lY h1 ho;have h1o:=jg h1 ho;split at h
 ·obtain⟨b,l2,h2,h⟩:=ag h
  have hb:=lY h2 (bT h1o);injection h with h _
  exact .inr ⟨a,b,ha,hb,h.symm⟩
 ·injection h with h _
  subst h;exact .inl ha
theorem JB {x:Nd} {l r:List Tk} (h:fD l=.got x r) (ho:∀ t∈l,jm t):jk x∧x.kd=15:=by
 obtain⟨t,ht,hk,rfl⟩:=JC h;have htl:t∈l:=List.mem_of_mem_head? ht;have:=((ho t htl).num hk).2.2;refine⟨.mk (.num (by unfold valOf;omega) (by unfold valOf;omega)) (fun y hy=>by cases hy),rfl⟩
theorem Vh {s:ByteArray} {k:Nat} (h:(qO s).2=k):1≤(qO s).1∧(qO s).1≤9:=by
 unfold qO at h ⊢
 repeat' split
 all_goals first|decide|skip
 simp_all
def aa0:NT→Prop
 | .loop _ x=>jk x∧lN x.kd
 | .place s=>qP s
 | .call s=>qP s
 | .args s acc=>qP s∧∀ y∈acc,jk y∧lN y.kd
 | .stats acc=>∀ y∈acc,jk y∧sG y.kd
 | .proc dX=>dX=0∨dX=2
 | .params s dX acc=>lF s∧(dX=0∨dX=2)∧∀ y∈acc,jk y∧y.kd=5
 | .imports s acc=>lF s∧∀ y∈acc,jk y∧y.kd=2
 | .decls s acc=>lF s∧∃ a b,acc=a++b∧(∀ y∈a,jk y∧y.kd=2)∧∀ y∈b,jk y∧(y.kd=3∨y.kd=4)
 | _=>True
def Vj:NT→Int→Prop
 | .expr,k=>lN k
 | .bound _,k=>lN k
 | .loop _ _,k=>lN k
 | .unary,k=>lN k
 | .asked,k=>lN k
 | .place _,k=>Rt k
 | .call _,k=>k=18
 | .args _ _,k=>k=18
 | .block,k=>k=6
 | .stats _,k=>k=6
 | .stat,k=>sG k
 | .decl,k=>k=3∨k=4
 | .proc _,k=>k=4
 | .params _ _ _,k=>k=4
 | .module,k=>k=1
 | .imports _ _,k=>k=1
 | .decls _ _,k=>k=1
theorem NG {k:Int} (h:Rt k):lN k:=by unfold Rt at h;unfold lN;omega
theorem fst {P Q:Nd→Prop} {l:List Nd} (h:∀ y∈l,P y∧Q y):∀ y∈l,P y:=fun y hy=>(h y hy).1
theorem snd {P Q:Nd→Prop} {l:List Nd} (h:∀ y∈l,P y∧Q y):∀ y∈l,Q y:=fun y hy=>(h y hy).2
theorem lZ {x y:Nd} {l r:List Tk} (h:jY x l=.got y r):y=x:=by
 unfold jY at h;obtain⟨_,_,_,h⟩:=ag h;injection h with h _
 exact h.symm
theorem Qu (n:Nat):∀ (X:NT) (l:List Tk) (x:Nd) (r:List Tk),(∀ t∈l,jm t)→aa0 X→bJ n X l=.got x r→jk x∧Vj X x.kd:=by
 induction n with
 | zero=>intro X l x r _ _ h;cases X<;>cases h
 | succ n ih=>
  intro X l x r ho hp h;have sub:∀ {Y:NT} {l r:List Tk} {y:Nd},(∀ t∈l,jm t)→bJ n Y l=.got y r→∀ t∈r,jm t:=fun ho h=>EC n _ _ _ _ ho h
  cases X with
  | expr=>simp only [bJ] at h;exact ih (.bound 0) _ _ _ ho trivial h
  | bound k=>
   simp only [bJ] at h;split at h
   ·exact ih .unary _ _ _ ho trivial h
   ·obtain⟨y,l1,h1,h⟩:=ag h
    have hy:=ih (.bound (k+1)) _ _ _ ho trivial h1;exact ih (.loop k y) _ _ _ (sub ho h1) hy h
  | loop k y=>
   simp only [bJ] at h;split at h
   ·rename_i hk
    obtain⟨z,l1,h1,h⟩:=ag h;have hz:=ih (.bound (k+1)) _ _ _ (bT ho) trivial h1;have hop:=Vh hk.2;have hnew:jk (.mk 19 aS (qO (textOf l)).1 [y,z])∧lN (Nd.mk 19 aS (qO (textOf l)).1 [y,z]).kd:=⟨.mk (.op hop.1 hop.2 hp.2 hz.2) (Ez hp.1 hz.1),by show lN 19;unfold lN;omega⟩;split at h
    ·injection h with h _
     subst h;exact hnew
    ·exact ih (.loop k (.mk 19 aS (qO (textOf l)).1 [y,z])) _ _ _ (sub (bT ho) h1) hnew h
   ·injection h with h _
    subst h;exact hp
  | unary=>
   simp only [bJ] at h;split at h
   ·obtain⟨y,l1,h1,h⟩:=ag h
    have hy:=ih .unary _ _ _ (bT ho) trivial h1;injection h with h _
    subst h;exact⟨.mk (.neg hy.2) (rM hy.1),by show lN 20;unfold lN;omega⟩
   ·split at h
    ·obtain⟨y,l1,h1,h⟩:=ag h
     have hy:=ih .unary _ _ _ (bT ho) trivial h1;injection h with h _
     subst h;exact⟨.mk (.not_ hy.2) (rM hy.1),by show lN 21;unfold lN;omega⟩
    ·split at h
     ·exact ih .asked _ _ _ ho trivial h
     ·split at h
      ·obtain⟨h1,h2⟩:=JB h ho
       exact⟨h1,by show lN x.kd;rw [h2];unfold lN;omega⟩
      ·obtain⟨s,l1,h1,h⟩:=ag h
       have hs:=rO h1 ho;have ho1:=rP (nP h1) ho;split at h
       ·obtain⟨h2,h3⟩:=ih (.call s) _ _ _ ho1 hs h
        exact⟨h2,by show lN x.kd;rw [show x.kd=18 from h3];unfold lN;omega⟩
       ·obtain⟨h2,h3⟩:=ih (.place s) _ _ _ ho1 hs h
        exact⟨h2,NG h3⟩
  | asked=>
   simp only [bJ] at h;obtain⟨_,l1,h1,h⟩:=ag h;obtain⟨y,l2,h2,h⟩:=ag h;obtain⟨_,l3,h3,h⟩:=ag h;injection h with h _
   subst h;exact ih .expr _ _ _ (gW h1 ho) trivial h2
  | place s=>
   simp only [bJ] at h;split at h
   ·obtain⟨y,l1,h1,h⟩:=ag h
    have hy:=ih .expr _ _ _ (bT ho) trivial h1;obtain⟨_,l2,h2,h⟩:=ag h;injection h with h _
    subst h;exact⟨.mk (.item hp hy.2) (rM hy.1),.inr rfl⟩
   ·injection h with h _
    subst h;exact⟨.mk (.name hp) (fun y hy=>by cases hy),.inl rfl⟩
  | call s=>
   simp only [bJ] at h;obtain⟨_,l1,h1,h⟩:=ag h;exact ih (.args s []) _ _ _ (gW h1 ho) ⟨hp,fun y hy=>by cases hy⟩ h
  | args s acc=>
   obtain⟨hs,ha⟩:=hp;simp only [bJ] at h;split at h
   ·obtain⟨_,l1,h1,h⟩:=ag h
    injection h with h _
    subst h;exact⟨.mk (.call hs (snd ha)) (fst ha),rfl⟩
   ·obtain⟨y,l1,h1,h⟩:=ag h
    have hy:=ih .expr _ _ _ ho trivial h1;have ho1:=sub ho h1;split at h
    ·exact ih (.args s (acc ++ [y])) _ _ _ (bT ho1) ⟨hs,snoc ha hy⟩ h
    ·obtain⟨_,l2,h2,h⟩:=ag h
     injection h with h _
     subst h;exact⟨.mk (.call hs (snoc (snd ha) hy.2)) (snoc (fst ha) hy.1),rfl⟩
  | block=>
   simp only [bJ] at h;obtain⟨_,l1,h1,h⟩:=ag h;exact ih (.stats []) _ _ _ (gW h1 ho) (fun y hy=>by cases hy) h
  | stats acc=>
   simp only [bJ] at h;split at h
   ·injection h with h _
    subst h;exact⟨.mk (.block (snd hp)) (fst hp),rfl⟩
   ·obtain⟨y,l1,h1,h⟩:=ag h
    have hy:=ih .stat _ _ _ ho trivial h1;exact ih (.stats (acc ++ [y])) _ _ _ (sub ho h1) (snoc hp hy) h
  | stat=>
   simp only [bJ] at h;split at h
   ·obtain⟨b,l1,h1,h⟩:=ag h
    obtain⟨s,l2,h2,h⟩:=ag h;obtain⟨_,l3,h3,h⟩:=ag h;obtain⟨y,l4,h4,h⟩:=ag h;have hb:=lG h1;have ho1:=l_ h1 ho;have ho2:=jg h2 ho1;have ho3:=gW h3 ho2;have hy:=ih .expr _ _ _ ho3 trivial h4;rw [lZ h];exact⟨.mk (.loc (lY h2 ho1) hb.1 hb.2 hy.2) (rM hy.1),by show sG 7;unfold sG;omega⟩
   ·split at h
    ·obtain⟨s,l1,h1,h⟩:=ag h
     obtain⟨y,l2,h2,h⟩:=ag h;have hy:=ih (.call s) _ _ _ (rP (nP h1) (bT ho)) (rO h1 (bT ho)) h2;rw [lZ h];exact⟨.mk (.do_ hy.2) (rM hy.1),by show sG 9;unfold sG;omega⟩
    ·split at h
     ·obtain⟨y,l1,h1,h⟩:=ag h
      have hy:=ih .asked _ _ _ (bT ho) trivial h1;have ho1:=sub (bT ho) h1;obtain⟨b,l2,h2,h⟩:=ag h;have hb:=ih .block _ _ _ ho1 trivial h2;have ho2:=sub ho1 h2;split at h
      ·obtain⟨c,l3,h3,h⟩:=ag h
       have hc:=ih .block _ _ _ (bT ho2) trivial h3;injection h with h _
       subst h;exact⟨.mk (.if3 hy.2 hb.2 hc.2) (Vg hy.1 hb.1 hc.1),by show sG 10;unfold sG;omega⟩
      ·injection h with h _
       subst h;exact⟨.mk (.if2 hy.2 hb.2) (Ez hy.1 hb.1),by show sG 10;unfold sG;omega⟩
     ·split at h
      ·obtain⟨y,l1,h1,h⟩:=ag h
       have hy:=ih .asked _ _ _ (bT ho) trivial h1;have ho1:=sub (bT ho) h1;obtain⟨b,l2,h2,h⟩:=ag h;have hb:=ih .block _ _ _ ho1 trivial h2;injection h with h _
       subst h;exact⟨.mk (.Ii hy.2 hb.2) (Ez hy.1 hb.1),by show sG 11;unfold sG;omega⟩
      ·split at h
       ·obtain⟨b,l1,h1,h⟩:=ag h
        obtain⟨y,l2,h2,h⟩:=ag h;have hb:=lG h1;have hy:=ih .expr _ _ _ (l_ h1 (bT ho)) trivial h2;rw [lZ h];exact⟨.mk (.out hb.1 hb.2 hy.2) (rM hy.1),by show sG 12;unfold sG;omega⟩
       ·split at h
        ·obtain⟨b,l1,h1,h⟩:=ag h
         obtain⟨s,l2,h2,h⟩:=ag h;obtain⟨y,l3,h3,h⟩:=ag h;have hb:=lG h1;have ho1:=l_ h1 (bT ho);have hy:=ih (.place s) _ _ _ (rP (nP h2) ho1) (rO h2 ho1) h3;rw [lZ h];exact⟨.mk (.inp hb.1 hb.2 hy.2) (rM hy.1),by show sG 13;unfold sG;omega⟩
        ·split at h
         ·obtain⟨y,l1,h1,h⟩:=ag h
          have hy:=ih .expr _ _ _ (bT ho) trivial h1;rw [lZ h];exact⟨.mk (.ret hy.2) (rM hy.1),by show sG 14;unfold sG;omega⟩
         ·obtain⟨s,l1,h1,h⟩:=ag h
          obtain⟨p,l2,h2,h⟩:=ag h;obtain⟨_,l3,h3,h⟩:=ag h;obtain⟨y,l4,h4,h⟩:=ag h;have ho1:=rP (nP h1) ho;have hq:=ih (.place s) _ _ _ ho1 (rO h1 ho) h2;have hy:=ih .expr _ _ _ (gW h3 (sub ho1 h2)) trivial h4;rw [lZ h];exact⟨.mk (.set hq.2 hy.2) (Ez hq.1 hy.1),by show sG 8;unfold sG;omega⟩
  | decl=>
   simp only [bJ] at h;have Me:∀ {b:Bool},(if b=true then (2:Int) else 0)=0∨(if b=true then (2:Int) else 0)=2:=by intro b;cases b<;>simp
   have ho0:∀ t∈(if fO l [rJ]=true then l.tail else l),jm t:=by split;exact bT ho;exact ho
   generalize (if fO l [rJ]=true then l.tail else l)=l0 at h ho0;have hpb:=@Me (fO l [rJ]);generalize (if fO l [rJ]=true then (2:Int) else 0)=pb at h hpb;split at h
   ·obtain⟨h1,h2⟩:=ih (.proc pb) _ _ _ (bT ho0) hpb h
    exact⟨h1,.inr h2⟩
   ·obtain⟨b,l1,h1,h⟩:=ag h
    obtain⟨s,l2,h2,h⟩:=ag h;have hb:=lG h1;have ho1:=l_ h1 ho0;have hs:=lY h2 ho1;have ho2:=jg h2 ho1;split at h
    ·obtain⟨y,l3,h3,h⟩:=ag h
     obtain⟨_,l4,h4,h⟩:=ag h;have hy:=JB h3 (bT ho2);rw [lZ h];exact⟨.mk (.array hs (by omega) (by omega) hy.2) (rM hy.1),.inl rfl⟩
    ·rw [lZ h]
     exact⟨.mk (.var hs (by omega) (by omega)) (fun y hy=>by cases hy),.inl rfl⟩
  | proc dX=>
   simp only [bJ] at h;obtain⟨s,l1,h1,h⟩:=ag h;obtain⟨_,l2,h2,h⟩:=ag h;exact ih (.params s dX []) _ _ _ (gW h2 (jg h1 ho)) ⟨lY h1 ho,hp,fun y hy=>by cases hy⟩ h
  | params s dX acc=>
   obtain⟨hs,hpb,ha⟩:=hp
   have hdone:∀ (acc:List Nd) (l:List Tk),(∀ y∈acc,jk y∧y.kd=5)→(∀ t∈l,jm t)→((dU dI l).bind fun _ l=>(dF l).bind fun b l=>
     if fO l [ou]=true then (dF l.tail).bind fun g l=>(bJ n .block l).bind fun x l=>.got (.mk 4 s (dX+b+(4+4*g)) (acc ++ [x])) l
     else (bJ n .block l).bind fun x l=>.got (.mk 4 s (dX+b) (acc ++ [x])) l)=Out.got x r→jk x∧x.kd=4:=by
    intro acc l hacc ho h;obtain⟨_,l1,h1,h⟩:=ag h;have ho1:=gW h1 ho;obtain⟨b,l2,hb,h⟩:=ag h;have ho2:=l_ hb ho1;have hb:=lG hb;split at h
    ·obtain⟨g,l3,hg,h⟩:=ag h
     have ho3:=l_ hg (bT ho2);have hg:=lG hg;obtain⟨y,l4,h4,h⟩:=ag h;have hy:=ih .block _ _ _ ho3 trivial h4;injection h with h1 _
     subst h1;exact⟨.mk (.proc hs (by omega) (by omega) (snd hacc) hy.2) (snoc (fst hacc) hy.1),rfl⟩
    ·obtain⟨y,l4,h4,h⟩:=ag h
     have hy:=ih .block _ _ _ ho2 trivial h4;injection h with h1 _
     subst h1;exact⟨.mk (.proc hs (by omega) (by omega) (snd hacc) hy.2) (snoc (fst hacc) hy.1),rfl⟩
   simp only [bJ] at h;split at h
   ·exact hdone _ _ ha ho h
   ·obtain⟨b,l1,h1,h⟩:=ag h
    obtain⟨p,l2,h2,h⟩:=ag h;have ho1:=l_ h1 ho;have hpn:=lY h2 ho1;have ho2:=jg h2 ho1;have hb:=lG h1;have BH:∀ q∈acc ++ [Nd.mk 5 p b []],jk q∧q.kd=5:=snoc ha ⟨.mk (.param hpn hb.1 hb.2) (fun y hy=>by cases hy),rfl⟩;split at h
    ·exact ih (.params s dX (acc ++ [.mk 5 p b []])) _ _ _ (bT ho2) ⟨hs,hpb,BH⟩ h
    ·exact hdone _ _ BH ho2 h
  | module=>
   simp only [bJ] at h;obtain⟨_,l1,h1,h⟩:=ag h;obtain⟨s,l2,h2,h⟩:=ag h;obtain⟨_,l3,h3,h⟩:=ag h;have ho1:=gW h1 ho;have ho2:=jg h2 ho1;exact ih (.imports s []) _ _ _ (gW h3 ho2) ⟨lY h2 ho1,fun y hy=>by cases hy⟩ h
  | imports s acc=>
   obtain⟨hs,ha⟩:=hp;simp only [bJ] at h;split at h
   ·obtain⟨p,l1,h1,h⟩:=ag h
    obtain⟨_,l2,h2,h⟩:=ag h;have ho1:=jg h1 (bT ho);exact ih (.imports s (acc ++ [.mk 2 p 0 []])) _ _ _ (gW h2 ho1) ⟨hs,snoc ha ⟨.mk (.imp (lY h1 (bT ho))) (fun y hy=>by cases hy),rfl⟩⟩ h
   ·exact ih (.decls s acc) _ _ _ ho ⟨hs,acc,[],by simp,ha,fun y hy=>by cases hy⟩ h
  | decls s acc=>
   obtain⟨hs,a,b,rfl,ha,hb⟩:=hp;simp only [bJ] at h;split at h
   ·injection h with h _
    subst h;refine⟨.mk (.module hs (snd ha) (snd hb)) (fun y hy=>?_),rfl⟩
    rcases List.mem_append.1 hy with hy|hy
    ·exact(ha y hy).1
    ·exact(hb y hy).1
   ·obtain⟨y,l1,h1,h⟩:=ag h
    have hy:=ih .decl _ _ _ ho trivial h1;exact ih (.decls s (a++b ++ [y])) _ _ _ (sub ho h1) ⟨hs,a,b ++ [y],by rw [List.append_assoc],ha,snoc hb hy⟩ h
end Pv
theorem Aw (s:ByteArray) (h:(aT s).2.1=0):jk (aT s).1∧(aT s).1.kd=1∧Si (aT s).1≤16∧fP (aT s).1≤500:=by
 unfold aT at h ⊢;obtain⟨T,hT⟩:∃ T,iP s.data.toList=T:=⟨_,rfl⟩;rw [hT] at h ⊢;obtain⟨ts,c,a⟩:=T;simp only at h ⊢;by_cases hc:c=0
 ·subst hc
  obtain⟨-,hok,-⟩:=Jz.wC s ts a hT;rw [if_pos rfl] at h ⊢;cases hp:bJ (20*ts.length+5) .module (kL s ts) with
  | out=>exact absurd hp (bC.Dz _ _ _ (by simp [kL,NT.rank]))
  | bad l=>rw [hp] at h;exact absurd (show (2:Int)=0 from h) (by decide)
  | got x r=>
   rw [hp] at h;simp only at h ⊢;by_cases hw:(eX 16 x 0).1=true
   ·rw [if_pos hw] at h ⊢
    have h1:=Pv.Qu _ .module _ _ _ hok trivial hp;have h2:=(xX 16 x 0 (by omega)).1.1 hw;exact⟨h1.1,h1.2,h2.1,by show fP x≤500;omega⟩
   ·rw [if_neg hw] at h
    exact absurd (show (1:Int)=0 from h) (by decide)
 ·rw [if_neg hc] at h
  exact absurd h hc
end Go.Proofs.YtpcihajmcejliacGreatDoor
namespace Go.Proofs.YtpcihajmcejliacGreatDoor
open Go.RowKit
namespace SS
open bn
theorem CX (l:List Nd) (q:Nat):kJ (l.drop q)≤kJ l:=by
 induction l generalizing q with
 | nil=>simp
 | cons x r ih=>
  cases q with
  | zero=>simp
  | succ q=>
   have:=ih q;simp only [List.drop_succ_cons,kJ];omega
set_option maxRecDepth 100000 in
set_option maxHeartbeats 4000000 in
theorem vJ:∀ (x:Nd) (v:Value) (w:World) (H:Nat→Bool),fE (hide H w) x v→fP x≤100000→
  Calls Tryz.prog 114 #[v] w fun e w'=>e=.returned (.int .i64 (fP x:Nat))∧Ext w w':=by
 refine oP fun k t n l ih v w H hx hmo=>?_
 rw [cG] at hx;obtain⟨a,cc,rfl,hx1,hx2,hx3,JD⟩:=hx;obtain⟨N,hN⟩:∃ N,l.length=N:=⟨_,rfl⟩;have XB:N≤9223372036854775807:=by unfold maxLen at hx2;omega
 have HN:=Z_ hN;rw [hN];have HIH:=Z_ ih;have HI:=Z_ (fun (u:World) (hE:Ext w u)=>JD.keeps (aC hE fun i _ e=>e.elim) fun b o y=>fL (aC hE fun i _ e=>e.elim) b o y);obtain⟨R,hR⟩:∃ R,fP (.mk k t n l)=R:=⟨_,rfl⟩;rw [hR] at hmo ⊢;have HR:=Z_ hR;have Q4:=Z_ (CX l);have hE1:=(aB.refl (fun _=>False) w).alloc (.cells #[.int .i64 k,.string t,.int .i64 n,.slice a N cc] 24);have HK:=Z_ (aH.made w #[.int .i64 k,.string t,.int .i64 n,.slice a N cc] 24);have Ef:=Z_ hE1;obtain⟨P,hP⟩:∃ P,w.heap.size=P:=⟨_,rfl⟩;rw [hP] at HK;clear hR JD hN ih hE1;go_enter Tryz.func114,Tryz.ntmps114
 go_upto_region 1 with (fail)
 generalize w.alloc (.cells #[.int .i64 k,.string t,.int .i64 n,.slice a N cc] 24)=w1 at *;have hc:=HK.out.cell;go_wp2_with fail
 clear hc;go_loopw [3,9] (fun kk i wr=>∃ q m:Nat,q≤N∧kk=.int .i64 m∧i=.int .i64 q∧Hid (m+kJ (l.drop q)=R)∧Hid (Ext w wr)∧Hid (aH wr P #[.int .i64 k,.string t,.int .i64 n,.slice a N cc] 24)) (fun _ i _=>N-(intOf i).toNat)
 case atStart=>exact⟨0,1,Nat.zero_le _,rfl,rfl,by have:=HR.out;simp only [fP] at this;rw [List.drop_zero];show 1+kJ l=R;omega,Ef,HK⟩
 clear Ef HK
 case round=>
  obtain⟨q,m,hq,rfl,rfl,hr,HE,HK⟩:=hrel;by_cases hlt:q<N
  ·have kN:q<l.length:=by rw [HN.out];exact hlt
   have hqi:(q:Int)<(N:Int):=by omega
   have GX:decide ((q:Int)<(N:Int))=true:=by simpa using hqi
   obtain⟨b,o,rfl,hb,u,hu,hus,hcl⟩:=HI.out wr HE.out q kN;obtain⟨k1,t1,n1,a1,l1,c1,rfl⟩:=bU hu;have q0:wr.cell? ⟨b,o+q*4,none⟩=some (.int .i64 k1):=(az H wr).2 _ _ ((hcl 0 (by decide)).trans rfl);have q1:wr.cell? ⟨b,o+q*4+1,none⟩=some (.string t1):=(az H wr).2 _ _ ((hcl 1 (by decide)).trans rfl);have q2:wr.cell? ⟨b,o+q*4+2,none⟩=some (.int .i64 n1):=(az H wr).2 _ _ ((hcl 2 (by decide)).trans rfl);have q3:wr.cell? ⟨b,o+q*4+3,none⟩=some (.slice a1 l1 c1):=(az H wr).2 _ _ ((hcl 3 (by decide)).trans rfl);have hr2:=hr.out;rw [AO kN] at hr2;have zf:=Z_ (HE.out.alloc (.cells #[.int .i64 k1,.string t1,.int .i64 n1,.slice a1 l1 c1] 24));have HK4:=Z_ (HK.out.alloc (.cells #[.int .i64 k1,.string t1,.int .i64 n1,.slice a1 l1 c1] 24))
   have HC:=Z_ (HIH.out l[q] (List.getElem_mem kN) _ (wr.alloc (.cells #[.int .i64 k1,.string t1,.int .i64 n1,.slice a1 l1 c1] 24)) H (aJ (aC ((aB.refl (fun _=>False) wr).alloc _) fun i _ e=>e.elim) _ _ hu) (by omega));obtain⟨z,hz⟩:∃ z,fP l[q]=z:=⟨_,rfl⟩;rw [hz] at hr2 HC;have hpw:IntKind.i64.wrap ((m:Int)+(z:Int))=((m+z:Nat):Int):=by rw [wrap_small _ (by omega) (by omega)];omega
   have HR3:=Z_ hr2;clear hr hr2 hcl hu hz;go_upto_region 5 with (fail)
   have hc5:=(aH.made wr #[.int .i64 k1,.string t1,.int .i64 n1,.slice a1 l1 c1] 24).cell;generalize wr.alloc (.cells #[.int .i64 k1,.string t1,.int .i64 n1,.slice a1 l1 c1] 24)=wz at *;go_wp2_with fail
   refine HC.out.mono ?_
   rintro e w5 ⟨rfl,qU⟩;have Jd:=Z_ (zf.out.ext qU);have HK5:=Z_ (HK4.out.ext qU);clear qU HC HE HK zf HK4 q0 q1 q2 q3 hc5;go_wp2_with fail
   go_roundw
   case rel=>exact⟨q+1,m+z,by omega,by first|rfl|simp [hpw],by go_num,by have:=HR3.out;show m+z+kJ (l.drop (q+1))=R;omega,Jd,HK5⟩
   case measure=>simp [intOf];omega
  ·obtain rfl:q=N:=by omega
   have GX:decide ((q:Int)<(q:Int))=false:=by simp
   have hT:=Z_ (show R=m by have:=hr.out;rw [List.drop_of_length_le (by rw [HN.out];exact Nat.le_refl _)] at this;simp only [kJ] at this;omega);clear hr;go_wp2_with fail
   go_ret
   refine⟨?_,HE.out⟩;have e:=hT.out;subst e;first|rfl|simp
end SS
end Go.Proofs.YtpcihajmcejliacGreatDoor
namespace Go.Proofs.YtpcihajmcejliacGreatDoor
open Go.RowKit
def aa3 (f:fB):Value:=.agg #[.string f.name,.bool f.dX,.int .i64 f.label,.int .i64 f.size]
def wF (x:fB) (v:Value) (_:World):Prop:=v=aa3 x∧x.name.size≤10000
def pF (x:aI) (v:Value) (w:World):Prop:=∃ a c,v=.agg #[.string x.name,.bool x.dX,.slice a x.params.length c,.int .i64 x.writes,.bool x.gives,.int .i64 x.given]∧bW 1 gh w a x.params∧x.params.length≤c∧c≤maxLen∧x.name.size≤10000
def AP (x:ByteArray) (v:Value) (_:World):Prop:=v=.string x∧x.size≤10000
def JE (x:Int) (v:Value) (_:World):Prop:=v=.int .i64 x
def kC (w:World) (b o:Nat) (x:ByteArray):Prop:=w.cell? ⟨b,o,none⟩=some (.string x)∧x.size≤10000
namespace dn
theorem JF:(Tryz.prog.info? 3).map (fun i=>(i.zero,i.size,i.bytes))=some (some (.int .i64 0),1,8):=by kernel_rfl
theorem I7:(Tryz.prog.info? 9).map (fun i=>(i.zero,i.size,i.bytes))=some (some (.string ⟨#[]⟩),1,16):=by kernel_rfl
theorem wG:(Tryz.prog.info? 70).map (fun i=>(i.zero,i.size,i.bytes))=some (some (.agg #[.string ⟨#[]⟩,.bool false,.int .i64 0,.int .i64 0]),4,40):=by kernel_rfl
theorem xY:(Tryz.prog.info? 68).map (fun i=>(i.zero,i.size,i.bytes))=some (some (.agg #[.string ⟨#[]⟩,.bool false,.slice none 0 0,.int .i64 0,.bool false,.int .i64 0]),6,72):=by kernel_rfl
theorem BI {w w':World} (hk:bZ w w') {b o:Nat} {x:Int} (h:gh w b o x):gh w' b o x:=hk.2 _ _ h
theorem BJ {w w':World} (hk:bZ w w') {b o:Nat} {x:fB} (h:h_ w b o x):h_ w' b o x:=⟨hk.2 _ _ h.1,hk.2 _ _ h.2.1,hk.2 _ _ h.2.2.1,hk.2 _ _ h.2.2.2.1,h.2.2.2.2⟩
theorem nR (x:Int) (u:Value) (w w':World) (_:bZ w w') (h:JE x u w):JE x u w':=h
theorem pV (x:ByteArray) (u:Value) (w w':World) (_:bZ w w') (h:AP x u w):AP x u w':=h
theorem gK (x:fB) (u:Value) (w w':World) (_:bZ w w') (h:wF x u w):wF x u w':=h
theorem gZ (x:aI) (u:Value) (w w':World) (hk:bZ w w') (h:pF x u w):pF x u w':=by
 obtain⟨a,c,e,h1,h2⟩:=h;exact⟨a,c,e,h1.keeps hk fun _ _ _=>BI hk,h2⟩
theorem JG (w:World) (b o:Nat) (x:Int) (u:Value) (h:JE x u w) (_:u.cells.size=1) (hc:∀ i,i<1→w.cell? ⟨b,o+i,none⟩=u.cells[i]?):gh w b o x:=by
 cases h
 exact hc 0 (by decide)
theorem IZ (w:World) (b o:Nat) (x:ByteArray) (u:Value) (h:AP x u w) (_:u.cells.size=1) (hc:∀ i,i<1→w.cell? ⟨b,o+i,none⟩=u.cells[i]?):kC w b o x:=by
 obtain⟨rfl,h1⟩:=h;exact⟨hc 0 (by decide),h1⟩
theorem small (n:Nat) (h:n≤10000):n≤maxLen:=by unfold maxLen;omega
theorem AB (w:World) (b o:Nat) (x:fB) (u:Value) (h:wF x u w) (_:u.cells.size=4) (hc:∀ i,i<4→w.cell? ⟨b,o+i,none⟩=u.cells[i]?):h_ w b o x:=by
 obtain⟨rfl,h1⟩:=h;exact⟨hc 0 (by decide),hc 1 (by decide),hc 2 (by decide),hc 3 (by decide),small _ h1⟩
theorem xH (w:World) (b o:Nat) (x:aI) (u:Value) (h:pF x u w) (_:u.cells.size=6) (hc:∀ i,i<6→w.cell? ⟨b,o+i,none⟩=u.cells[i]?):dY w b o x:=by
 obtain⟨a,c,rfl,h1,h2,h3,h4⟩:=h;exact⟨hc 0 (by decide),hc 1 (by decide),⟨a,c,hc 2 (by decide),h1,h2,h3⟩,hc 3 (by decide),hc 4 (by decide),hc 5 (by decide),small _ h4⟩
theorem nD {u u':World} {own:Option Nat} (hg:u.grownBy u' own):aB (fun i=>own=some i) u u':=
 ⟨hg.os,hg.tape,hg.output,hg.size,fun i hi hn=>hg.block i hi (by first|exact hn|exact fun e=>hn e.symm)⟩
theorem uD {α : Type} {k:Nat} {E:TypeId} {V:α→Value→World→Prop} {u w4:World} {B:Nat} {row:Value} {acc:List α} {x:α} {v:Value} {us:List Value} {o:Obj} {g c:Nat} (hV:∀ x u w w',bZ w w'→V x u w→V x u w') (hu1:us.length=acc.length) (hu3:∀ j (h:j<acc.length) (h':j<us.length),V acc[j] us[j] (hide (bM B row) u)∧us[j].cells.size=k) (hx:V x v (hide (bM B row) u)) (hk:v.cells.size=k)
  (hown:w4.ownsRow B E k (.slice (some ⟨g,0,none⟩) (acc.length+1) c) (acc.length+1) (us.flatMap (fun u=>u.cells.toList)++v.cells.toList)) (hgrow:(u.alloc o).grownBy w4 row.ownBlock) (hat:row.ownBlock=some g∨g=u.heap.size+1) :
  Grow k E V B w4 (.slice (some ⟨g,0,none⟩) (acc.length+1) c) (acc ++ [x])∧aB (fun i=>row.ownBlock=some i) u w4:=by
 have hC:aB (fun i=>row.ownBlock=some i) u w4:=(((aB.refl (fun _=>False) u).alloc o).weak (fun _ _ h=>h.elim)).then (nD hgrow)
 refine⟨Grow.push hV hu1 hu3 hx hk hown hC.size (fun i hi hn=>hC.block i hi hn) (fun i hi=>?_),hC⟩
 have e:g=i:=by simpa [Value.ownBlock] using hi
 subst e;rcases hat with h|h
 ·exact .inl h
 ·exact .inr (by omega)
theorem dV {α : Type} {k:Nat} {E:TypeId} {V:α→Value→World→Prop} {B:Nat} {w:World} {row:Value} {acc:List α} (h:Grow k E V B w row acc):∃ a c,row=.slice a acc.length c∧(acc.length≤c∧c≤maxLen):=by
 obtain⟨us,_,ho,_⟩:=h.ex;rcases ho.2 with ⟨rfl,h0⟩|⟨g,cap,cur,rfl,_,_,h1,h2,_⟩
 ·exact⟨_,_,by rw [h0],by rw [h0];exact⟨Nat.le_refl _,by decide⟩⟩
 ·exact⟨_,_,rfl,h1,h2⟩
theorem bh {α : Type} {k:Nat} {E:TypeId} {V:α→Value→World→Prop} {B:Nat} {w:World} {row:Value} {acc:List α} (h:Grow k E V B w row acc):∀ i,row.ownBlock=some i→B≤i∧i<w.heap.size:=by
 obtain⟨us,_,ho,_⟩:=h.ex;exact fun i e=>World.ownsRow.lt ho i e
end dn
end Go.Proofs.YtpcihajmcejliacGreatDoor
namespace Go.Proofs.YtpcihajmcejliacGreatDoor
open Go.RowKit
structure je {α : Type} (X:Nat→Bool) (k:Nat) (E:TypeId) (V:α→Value→World→Prop) (B:Nat) (w:World) (v:Value) (l:List α):Prop where
 ex:∃ us:List Value,us.length=l.length∧w.ownsRow B E k v l.length (us.flatMap fun u=>u.cells.toList)∧∀ j (h:j<l.length) (h':j<us.length),V l[j] us[j] (hide (fun i=>bM B v i || X i) w)∧us[j].cells.size=k
namespace dn
theorem su {α : Type} (X:Nat→Bool) (k:Nat) (E:TypeId) (V:α→Value→World→Prop) (B:Nat) (w:World):je X k E V B w (.slice none 0 0) []:=
 ⟨[],rfl,World.ownsRow_nil _ _ _ _,fun j h=>by simp at h⟩
theorem lT {α : Type} {X:Nat→Bool} {k:Nat} {E:TypeId} {V:α→Value→World→Prop} {B:Nat} {w:World} {row:Value} {acc:List α} (h:je X k E V B w row acc):∃ a c,row=.slice a acc.length c∧(acc.length≤c∧c≤maxLen):=by
 obtain⟨us,_,ho,_⟩:=h.ex;rcases ho.2 with ⟨rfl,h0⟩|⟨g,cap,cur,rfl,_,_,h1,h2,_⟩
 ·exact⟨_,_,by rw [h0],by rw [h0];exact⟨Nat.le_refl _,by decide⟩⟩
 ·exact⟨_,_,rfl,h1,h2⟩
theorem bH {α : Type} {X:Nat→Bool} {k:Nat} {E:TypeId} {V:α→Value→World→Prop} {B:Nat} {w:World} {row:Value} {acc:List α} (h:je X k E V B w row acc):∀ i,row.ownBlock=some i→B≤i∧i<w.heap.size:=by
 obtain⟨us,_,ho,_⟩:=h.ex;exact fun i e=>World.ownsRow.lt ho i e
theorem eG {α : Type} {X X':Nat→Bool} {k:Nat} {E:TypeId} {V:α→Value→World→Prop} {B:Nat} {w w':World} {row:Value} {acc:List α} (h:je X k E V B w row acc) (hV:∀ x u w w',bZ w w'→V x u w→V x u w') {S:Nat→Prop} (hC:aB S w w')
  (hS:∀ i,S i→i<B∨X i=true) (hO:∀ i,row.ownBlock=some i→¬ S i) (hX:∀ i,X' i=true→X i=true∨w.heap.size≤i):je X' k E V B w' row acc:=by
 obtain⟨us,h1,⟨h2,h4⟩,h3⟩:=h.ex;refine⟨us,h1,⟨h2,?_⟩,fun j hj hj'=>⟨hV _ _ _ _ (aZ hC.size fun i hi hm=>?_) (h3 j hj hj').1,(h3 j hj hj').2⟩⟩
 ·rcases h4 with h4|⟨g,cap,cur,hv,hg,hh,r⟩
  ·exact .inl h4
  ·refine .inr ⟨g,cap,cur,hv,hg,?_,r⟩
   rw [hC.block g (Array.getElem?_eq_some_iff.1 hh).1 (hO g (by rw [hv];rfl))];exact hh
 ·simp only [Bool.or_eq_false_iff,bM,decide_eq_false_iff_not] at hm ⊢
  have h5:X' i=false:=by
   cases hx:X' i with
   | false=>rfl
   | true=>
    rcases hX i hx with h|h
    ·rw [h] at hm;cases hm.2
    ·omega
  refine⟨⟨⟨hm.1.1,hm.1.2⟩,h5⟩,hC.block i hi fun hs=>?_⟩
  rcases hS i hs with h|h
  ·exact hm.1.1 h
  ·rw [h] at hm;cases hm.2
theorem sF {α : Type} {X:Nat→Bool} {k:Nat} {E:TypeId} {V:α→Value→World→Prop} {In:World→Nat→Nat→α→Prop} {B:Nat} {w:World} {v:Value} {l:List α} (h:je X k E V B w v l)
  (hV:∀ x u w w',bZ w w'→V x u w→V x u w')
  (hI:∀ (w:World) b o x u,V x u w→u.cells.size=k→(∀ i,i<k→w.cell? ⟨b,o+i,none⟩=u.cells[i]?)→In w b o x):kK k In l v (hide (below B) w):=by
 obtain⟨us,h1,h2,h3⟩:=h.ex;refine Grow.row (E:=E) ⟨us,h1,h2,fun j hj hj'=>⟨hV _ _ _ _ (aZ (Nat.le_refl _) fun i hi hm=>?_) (h3 j hj hj').1,(h3 j hj hj').2⟩⟩ hV hI
 simp only [Bool.or_eq_false_iff] at hm;exact⟨hm.1,rfl⟩
theorem BK {X:Nat→Bool} {A B:Nat} {row:Value} {w:World} (hB:B≤A) (hr:∀ i,row.ownBlock=some i→i<A) (hX:∀ i,X i=true→i<A):bZ (hide (below A) w) (hide (fun i=>bM B row i || X i) w):=aZ (Nat.le_refl _) fun i hi hm=>by
 simp only [below,decide_eq_false_iff_not] at hm;refine⟨?_,rfl⟩
 simp only [Bool.or_eq_false_iff,bM,decide_eq_false_iff_not];refine⟨⟨by omega,fun e=>hm (hr i e)⟩,?_⟩
 cases hx:X i with
 | false=>rfl
 | true=>exact absurd (hX i hx) hm
def ownB (v:Value):Nat→Bool:=fun i=>decide (v.ownBlock=some i)
end dn
end Go.Proofs.YtpcihajmcejliacGreatDoor
namespace Go.Proofs.YtpcihajmcejliacGreatDoor
open Go.RowKit
def Vk (all:Bool) (l:List Nd):List fB:=(fH l).filter fun v=>all || v.dX
def Vl (all:Bool) (l:List Nd):List aI:=(aY l).filter fun p=>all || p.dX
def AL (all:Bool) (x:Nd):aN:=⟨x.tx,Vk all x.kids,Vl all x.kids⟩
def gY:aN:=⟨⟨#[]⟩,[],[]⟩
def qB (s:ByteArray):aN×List ByteArray×Int×Int:=
 if (aT s).2.1=0 then
  (if (iw (aT s).1.tx (aT s).1.kids [] [] 1).1=0 then (AL false (aT s).1,dR (aT s).1.kids,0,0)
  else (gY,[],(iw (aT s).1.tx (aT s).1.kids [] [] 1).1,((iw (aT s).1.tx (aT s).1.kids [] [] 1).2:Nat)))
 else (gY,[],(aT s).2.1,(aT s).2.2)
namespace XG
open dn
def Qv (w:World) (R:aN×List ByteArray×Int×Int) (e:Ending) (w':World):Prop:=
 Ext w w'∧∃ vF vI,e=.returned (.tuple #[vF,vI,.agg #[.int .i64 R.2.2.1,.int .i64 R.2.2.2]])∧eC w' R.1 vF∧kK 1 kC R.2.1 vI w'
theorem look_ok (m:ByteArray):∀ (l:List Nd) (I L:List (List UInt8)) (p:Nat),(iw m l I L p).1=0→(iw m l I L p).2=0:=by
 intro l;induction l with
 | nil=>intro I L p _;rfl
 | cons x r ih=>
  intro I L p h;simp only [iw] at h ⊢;split
  ·rename_i h1
   rw [if_pos h1] at h;split
   ·rename_i h2;rw [if_pos h2] at h;exact absurd (show (5:Int)=0 from h) (by decide)
   ·rename_i h2
    rw [if_neg h2] at h;split
    ·rename_i h3;rw [if_pos h3] at h;exact absurd (show (5:Int)=0 from h) (by decide)
    ·rename_i h3
     rw [if_neg h3] at h;split
     ·rename_i h4;rw [if_pos h4] at h;exact absurd (show (1:Int)=0 from h) (by decide)
     ·rename_i h4;rw [if_neg h4] at h;exact ih _ _ _ h
  ·rename_i h1
   rw [if_neg h1] at h;split
   ·rename_i h2;rw [if_pos h2] at h;exact absurd (show (5:Int)=0 from h) (by decide)
   ·rename_i h2
    rw [if_neg h2] at h;split
    ·rename_i h3;rw [if_pos h3] at h;exact absurd (show (1:Int)=0 from h) (by decide)
    ·rename_i h3
     rw [if_neg h3] at h;split
     ·rename_i h4;rw [if_pos h4] at h;exact ih _ _ _ h
     ·rename_i h4;rw [if_neg h4] at h;exact absurd h h4
theorem zA:∀ (f:Nat) (l:List UInt8) (p:Nat) (acc:List Tok),(fQ f l p acc).2.1=0→(fQ f l p acc).2.2=0:=by
 intro f;induction f with
 | zero=>intro l p acc _;rfl
 | succ f ih=>
  intro l p acc h;simp only [fQ] at h ⊢;split
  ·rename_i h1
   rw [if_pos h1] at h;split
   ·rename_i h2
    rw [if_pos h2] at h;exact ih _ _ _ h
   ·rename_i h2
    rw [if_neg h2] at h;exact absurd h h2
  ·rfl
theorem Gq {l:List UInt8} (h:(iP l).2.1=0):(iP l).2.2=0:=by
 unfold iP at h ⊢;split
 ·rename_i h1
  rw [if_pos h1] at h
 ·rename_i h1
  rw [if_neg h1] at h;exact zA _ _ _ _ h
theorem I0 (s:ByteArray) (h:(aT s).2.1=0):(∀ y∈(aT s).1.kids,o5 y)∧fP (aT s).1≤500∧(aT s).2.2=0:=by
 unfold aT at h ⊢;obtain⟨T,hT⟩:∃ T,iP s.data.toList=T:=⟨_,rfl⟩;have hz:=Gq (l:=s.data.toList);rw [hT] at h hz ⊢;obtain⟨ts,c,a⟩:=T;simp only at h ⊢;by_cases hc:c=0
 ·subst hc
  obtain⟨-,hok,-⟩:=Jz.wC s ts a hT;rw [if_pos rfl] at h ⊢;cases hp:bJ (20*ts.length+5) .module (kL s ts) with
  | out=>rw [hp] at h;exact⟨fun y hy=>(by cases hy),(by decide:fP jf≤500),rfl⟩
  | bad l=>rw [hp] at h;exact absurd (show (2:Int)=0 from h) (by decide)
  | got x r=>
   rw [hp] at h;simp only at h ⊢;by_cases hw:(eX 16 x 0).1=true
   ·rw [if_pos hw] at h ⊢
    obtain⟨m,kids,rfl,hk⟩:=ofm.Gs _ _ _ _ hok hp;have h2:=((xX 16 _ 0 (by omega)).1.1 hw).2;exact⟨hk,by show fP (Nd.mk 1 m 0 kids)≤500;omega,by have:a=0:=hz rfl;subst this;rfl⟩
   ·rw [if_neg hw] at h
    exact absurd (show (1:Int)=0 from h) (by decide)
 ·rw [if_neg hc] at h
  exact absurd h hc
end XG
end Go.Proofs.YtpcihajmcejliacGreatDoor
