/- The walk of syntax.Parse. What form a node has that a text is read as, in plain Lean. How many nodes one has: the program's weight and the reference's Weight. A row in a cell grows by one, in a region that draws its order: what is known on the way. Two rows that grow side by side: variables, and procedures whose parameters lie in rows of their own. What the face of a text is, in plain Lean; what a call that tells it comes to. -/
import Derived.Deep.CutBlock
import Derived.Deep.DeepCutAuto
import Derived.Deep.LoopGhost
import Derived.Deep.AppendLies
import Derived.Test.YtpcihajmcejliacGreatDoorSynK
import Derived.Test.YtpcihajmcejliacGreatDoorSyn3
import Derived.Test.YtpcihajmcejliacGreatDoorSynC
namespace Go.Proofs.YtpcihajmcejliacGreatDoor
open Go.RowKit
def kE:Nd:=.mk 0 aF 0 []
def aZ (s:ByteArray):Nd×Int×Int:=
 if (jY s.data.toList).2.1=0 then
  match bn (20*(jY s.data.toList).1.length+5) .module (n_ s (jY s.data.toList).1) with
  | .got x _=>if (d_ 16 x 0).1=true then (x,0,(jY s.data.toList).2.2) else (kE,1,0)
  | .bad l=>(kE,2,posOf s.size l)
  | .out=>(kE,0,0)
 else (kE,(jY s.data.toList).2.1,(jY s.data.toList).2.2)
namespace bH
def xe (w:World) (R:Nd×Int×Int) (e:Ending) (w':World):Prop:=Ext w w'∧∃ v,e=.returned (.tuple #[v,.agg #[.int .i64 R.2.1,.int .i64 R.2.2]])∧ij (hide (below w.heap.size) w') R.1 v
structure PI (w u:World) (R F:Nat) (a b c d f0 f1:Value) (x:Nd):Prop where
 r:aJ u R #[a,b,c,d] 24
 f:aJ u F #[f0,f1] 27
 ext:Ext w u
 nd:ij (hide (below (F+1)) u) x (.agg #[a,b,c,d])
 hR:w.heap.size≤R
 xC:R<F
theorem PI.drew {w u:World} {R F:Nat} {a b c d f0 f1:Value} {x:Nd} (h:PI w u R F a b c d f0 f1 x):PI w u.drew R F a b c d f0 f1 x:=⟨h.r.drew,h.f.drew,h.ext.drew,sN h.nd (aB.refl (fun _=>False) u).drew (fun _ h=>h.elim),h.hR,h.xC⟩
theorem PI.af4 {w u:World} {R F:Nat} {a b c d f0 f1:Value} {x:Nd} (h:PI w u R F a b c d f0 f1 x):PI w ((((u.setCell ⟨R,0,none⟩ a).setCell ⟨R,1,none⟩ b).setCell ⟨R,2,none⟩ c).setCell ⟨R,3,none⟩ d) R F a b c d f0 f1 x:=by
 have h1:=h.hR;have h2:=h.xC
 have hC:aB (fun i=>i=R) u ((((u.setCell ⟨R,0,none⟩ a).setCell ⟨R,1,none⟩ b).setCell ⟨R,2,none⟩ c).setCell ⟨R,3,none⟩ d):=aA (aA (aA (aA (aB.refl _ _) 0 a) 1 b) 2 c) 3 d;exact⟨(((h.r.set 0 a).set 1 b).set 2 c).set 3 d,h.f.aU hC (by omega),h.ext.trans hC (fun i hi e=>by omega),sN h.nd hC (fun i e=>by omega),h1,h2⟩
theorem PI.af5 {w u:World} {R F:Nat} {a b c d f0 f1:Value} {x:Nd} (h:PI w u R F a b c d f0 f1 x):PI w ((u.setCell ⟨F,0,none⟩ f0).setCell ⟨F,1,none⟩ f1) R F a b c d f0 f1 x:=by
 have h1:=h.hR;have h2:=h.xC
 have hC:aB (fun i=>i=F) u ((u.setCell ⟨F,0,none⟩ f0).setCell ⟨F,1,none⟩ f1):=aA (aA (aB.refl _ _) 0 f0) 1 f1;exact⟨h.r.aU hC (by omega),(h.f.set 0 f0).set 1 f1,h.ext.trans hC (fun i hi e=>by omega),sN h.nd hC (fun i e=>by omega),h1,h2⟩
theorem PI.post {w u:World} {R F:Nat} {a b c d:Value} {f0 f1:Int} {x:Nd} {Q:Nd×Int×Int} (h:PI w u R F a b c d (.int .i64 f0) (.int .i64 f1) x) (hQ:Q=(x,f0,f1)):xe w Q (.returned (.tuple #[.agg #[a,b,c,d],.agg #[.int .i64 f0,.int .i64 f1]])) u:=by
 subst hQ;have h1:=h.hR;have h2:=h.xC
 exact⟨h.ext,_,rfl,aQ (bJ (Nat.le_refl _) fun i hi hm=>⟨by simp [below] at hm ⊢;omega,rfl⟩) _ _ h.nd⟩
set_option maxRecDepth 100000 in
set_option maxHeartbeats 8000000 in
theorem J7 (s:ByteArray) (w:World) (hs:s.size≤9223372036854775807) (hv:ErrVar w) (hm:dG w) :
  Calls Tryz.prog 15 #[.string s] w (xe w (aZ s)):=by
 obtain⟨Q,hQ⟩:∃ Q,aZ s=Q:=⟨_,rfl⟩;rw [hQ];unfold aZ at hQ;obtain⟨T,hT⟩:∃ T,jY s.data.toList=T:=⟨_,rfl⟩;rw [hT] at hQ;have WN:=Z_ hT;obtain⟨ts,c,a⟩:=T;simp only at hQ;have HQ:=Z_ hQ;obtain⟨R,hR⟩:∃ R,w.heap.size=R:=⟨_,rfl⟩;obtain⟨F,hF⟩:∃ F,R+1=F:=⟨_,rfl⟩;have hR0:=(aJ.made w #[.int .i64 0,.string ⟨#[]⟩,.int .i64 0,.slice none 0 0] 24).alloc (.cells #[.int .i64 0,.int .i64 0] 27);have oO:=aJ.made2 w (.cells #[.int .i64 0,.string ⟨#[]⟩,.int .i64 0,.slice none 0 0] 24) #[.int .i64 0,.int .i64 0] 27;rw [hR] at hR0 oO;rw [hF] at oO;have uQ:=((aB.refl (fun _=>False) w).alloc (.cells #[.int .i64 0,.string ⟨#[]⟩,.int .i64 0,.slice none 0 0] 24)).alloc (.cells #[.int .i64 0,.int .i64 0] 27);have HC:=Z_ (lexTells.H8 s _ hs (hv.ext uQ) (ts,c,a) (Z_ hT))
 have HM:=Z_ (fun (u:World) (hE:Ext w u)=>hm.ext hE);have xC:R<F:=by omega
 have HR0:=Z_ hR0;have vP:=Z_ oO;have HX0:=Z_ uQ;have hmf:∀ (fn:Fn) (first cap:Array Value) (w:World),(Instr.makeFunc fn first cap).run Tryz.prog w=.ok (.func fn first cap) w:=fun _ _ _ _=>rfl
 clear hv hm hT hQ hR0 oO uQ;go_enter_defers Tryz.func15,Tryz.ntmps15
 go_upto_region 1 with (fail)
 try rw [hF]
 generalize (w.alloc (.cells #[.int .i64 0,.string ⟨#[]⟩,.int .i64 0,.slice none 0 0] 24)).alloc (.cells #[.int .i64 0,.int .i64 0] 27)=u0 at *;go_wp2_with fail
 refine HC.out.mono ?_
 rintro e w1 ⟨v,rfl,ho,hE1⟩;have HO:=Z_ ho;have hR1:=HR0.out.ext hE1;have hF1:=vP.out.ext hE1;have hX1:=HX0.out.ext hE1;have hsz1:F+1≤w1.heap.size:=by have:=vP.out.lt;have:=hE1.size;omega
 have hc:=hF1.cell;have hf:=hF1.frozen;have hl:=hF1.lt
 have af6:PI w ((w1.setCell ⟨F,0,none⟩ (.int .i64 c)).setCell ⟨F,1,none⟩ (.int .i64 a)) R F (.int .i64 0) (.string ⟨#[]⟩) (.int .i64 0) (.slice none 0 0) (.int .i64 c) (.int .i64 a) kE:=
  ⟨(hR1.setOther (p:=⟨F,0,none⟩) (by show R≠F;omega) _).setOther (p:=⟨F,1,none⟩) (by show R≠F;omega) _,(hF1.set 0 _).set 1 _,(hX1.bM (p:=⟨F,0,none⟩) (by show w.heap.size≤F;omega) _).bM (p:=⟨F,1,none⟩) (by show w.heap.size≤F;omega) _,oH _ _ _ _ (by decide),by omega,xC⟩
 have hO2:=zH (zH ho (p:=⟨F,0,none⟩) (by intro k hk;have:=(World.ownsRow.lt ho k hk).1;have:=vP.out.lt;show k≠F;omega) (.int .i64 c)) (p:=⟨F,1,none⟩) (by intro k hk;have:=(World.ownsRow.lt ho k hk).1;have:=vP.out.lt;show k≠F;omega) (.int .i64 a);have HO2:=Z_ hO2;have qJ:=Z_ af6;clear ho hR1 hF1 hX1 af6 hO2 hE1 HC HO HR0 vP HX0;go_upto_region 2 with (fail)
 clear hc hf hl;have a4_:F+1≤((w1.setCell ⟨F,0,none⟩ (.int .i64 c)).setCell ⟨F,1,none⟩ (.int .i64 a)).heap.size:=by simpa using hsz1
 generalize (w1.setCell ⟨F,0,none⟩ (.int .i64 c)).setCell ⟨F,1,none⟩ (.int .i64 a)=u1 at *;clear hsz1;have hc:=qJ.out.f.cell;by_cases hc0:c=0
 ·subst hc0
  have hQ2:=HQ.out;rw [if_pos rfl] at hQ2;have uM:=Z_ hQ2;obtain⟨hs3,hok,htl⟩:=Sl.BM s ts a WN.out;obtain⟨ta,tc,rfl,htk⟩:=Sl.Yz HO2.out hok;obtain⟨NT',hNT⟩:∃ q,ts.length=q:=⟨_,rfl⟩;rw [hNT] at htl HO2;have HLT:=Z_ hNT;clear hQ2 HQ hok;rw [hNT];obtain⟨S,hS⟩:∃ S,u1.heap.size=S:=⟨_,rfl⟩
  have Yx:bW u1 (u1.alloc (.cells #[.slice ta NT' tc,.int .i64 0,.int .i64 (s.size:Nat)] 108)) S s.size (n_ s ts):=by
   refine⟨⟨ta,NT',tc,0,?_,by simp [n_,hNT],by omega,htk⟩,(aB.refl _ _).alloc _,by omega⟩
   rw [←hS];exact aJ.made u1 _ _
  have HN:=Z_ (Sm (20*ts.length+5) .module _ _ Yx (HM.out u1 qJ.out.ext) rfl trivial (bZ.EO _ _ _ (by simp [n_,NT.rank])));have hne:=bZ.EO (20*ts.length+5) .module (n_ s ts) (by simp [n_,NT.rank]);have jO:=Z_ hne;have hE2:=(aB.refl (fun _=>False) u1).alloc (.cells #[.slice ta NT' tc,.int .i64 0,.int .i64 (s.size:Nat)] 108);have HR2:=Z_ (qJ.out.r.ext hE2);have HF2:=Z_ (qJ.out.f.ext hE2);have zE:=Z_ (qJ.out.ext.ext hE2);have hSF:F<S:=by omega
  clear Yx hne hE2 htk;rw [hNT] at HN jO uM;go_upto_region 6 with (fail)
  try rw [hS]
  clear hc;generalize u1.alloc (.cells #[.slice ta NT' tc,.int .i64 0,.int .i64 (s.size:Nat)] 108)=u2 at *;go_wp2_with fail
  refine HN.out.mono ?_
  rintro e w3 hr;obtain⟨hC,⟨lb,hp,rfl⟩|⟨x,lx,v,hp,rfl,hvx,hP⟩⟩:=hr.cases jO.out
  ·have Ue:=Z_ (show Q=(kE,2,posOf s.size lb) by have:=uM.out;rw [hp] at this;exact this.symm)
   have Hl:=HR2.out.aU hC (by omega);have hF3:=HF2.out.aU hC (by omega);have Oz:=zE.out.trans hC (fun i hi e=>by have:=qJ.out.ext.size;omega);clear hr hp hC HN;go_wp2_with fail
   refine leaves_cons (f:=47) (args:=#[.pointer (some ⟨R,0,none⟩),.pointer (some ⟨F,0,none⟩)]) (by simp) (by simp [go_sem]) ?_
   refine(Ij R F _ _ _ _ Hl rfl hF3 rfl (by omega)).mono ?_
   rintro e u' w'' ⟨rfl,rfl,DN,DR,J5⟩;exact⟨_,m_ rfl _ _ rfl DN Tryz.underlying24 rfl (by kernel_rfl) rfl DR Tryz.underlying27 rfl (by kernel_rfl),(⟨DN,DR,Oz.trans J5 fun i hi e=>by omega,oH _ _ _ _ (by decide),by omega,xC⟩:PI w w'' R F _ _ _ _ _ _ kE).post Ue.out⟩
  ·have Ue:=Z_ (show (if (d_ 16 x 0).1=true then (x,(0:Int),(a:Int)) else (kE,1,0))=Q by have:=uM.out;rw [hp] at this;exact this)
   have Hl:=HR2.out.aU hC (by omega);have hF3:=HF2.out.aU hC (by omega);have Oz:=zE.out.trans hC (fun i hi e=>by have:=qJ.out.ext.size;omega);have hsz3:=hC.size;have hu2:=hr.1.size;obtain⟨kx,tx,mx,ax,nx,cx,rfl⟩:=dF hvx;have hSu:=qJ.out.ext.size;have a52:F+1≤u2.heap.size:=by have:=HF2.out.lt;omega
   have af7:ij (hide (below (F+1)) w3) x (.agg #[.int .i64 kx,.string tx,.int .i64 mx,.slice ax nx cx]):=BI hvx (by omega)
   have af8:PI w ((((w3.setCell ⟨R,0,none⟩ (.int .i64 kx)).setCell ⟨R,1,none⟩ (.string tx)).setCell ⟨R,2,none⟩ (.int .i64 mx)).setCell ⟨R,3,none⟩ (.slice ax nx cx)) R F (.int .i64 kx) (.string tx) (.int .i64 mx) (.slice ax nx cx) (.int .i64 0) (.int .i64 a) x:=by
    have hCC:aB (fun i=>i=R) w3 ((((w3.setCell ⟨R,0,none⟩ (.int .i64 kx)).setCell ⟨R,1,none⟩ (.string tx)).setCell ⟨R,2,none⟩ (.int .i64 mx)).setCell ⟨R,3,none⟩ (.slice ax nx cx)):=aA (aA (aA (aA (aB.refl _ _) 0 _) 1 _) 2 _) 3 _;exact⟨(((Hl.set 0 _).set 1 _).set 2 _).set 3 _,hF3.aU hCC (by omega),Oz.trans hCC (fun i hi e=>by omega),sN af7 hCC (fun i e=>by omega),by omega,xC⟩
   have hc:=Hl.cell;have hf:=Hl.frozen;have hl:=Hl.lt;clear hr hp hC HN hvx af7 Hl hF3 Oz qJ HR2 HF2 zE;have qJ:=Z_ af8;clear af8;go_upto_region 7 with (fail)
   clear hc hf hl;generalize (((w3.setCell ⟨R,0,none⟩ (.int .i64 kx)).setCell ⟨R,1,none⟩ (.string tx)).setCell ⟨R,2,none⟩ (.int .i64 mx)).setCell ⟨R,3,none⟩ (.slice ax nx cx)=u4 at *;obtain⟨M,hM⟩:∃ M,u4.heap.size=M:=⟨_,rfl⟩;have Sr:=(aB.refl (fun _=>False) u4).alloc (.cells #[.int .i64 0] 3);have a56:=qJ.out.f.lt
   have YA:PI w (u4.alloc (.cells #[.int .i64 0] 3)) R F (.int .i64 kx) (.string tx) (.int .i64 mx) (.slice ax nx cx) (.int .i64 0) (.int .i64 a) x:=
    ⟨qJ.out.r.ext Sr,qJ.out.f.ext Sr,qJ.out.ext.ext Sr,aQ (aN Sr fun _ _ h=>h.elim) _ _ qJ.out.nd,by omega,xC⟩
   have hM4:aJ (u4.alloc (.cells #[.int .i64 0] 3)) M #[.int .i64 (0:Nat)] 3:=by rw [←hM];exact aJ.made u4 _ _
   have YB:ij (hide (fun i=>below (F+1) i || decide (i=M)) (u4.alloc (.cells #[.int .i64 0] 3))) x (.agg #[.int .i64 kx,.string tx,.int .i64 mx,.slice ax nx cx]):=by
    refine aQ (bJ (by simp) fun i hi hm=>?_) _ _ qJ.out.nd
    refine⟨?_,Below.heap_alloc _ _ _ hi⟩
    rw [hm,Bool.false_or,decide_eq_false_iff_not];omega
   have HW:=Z_ (OW 16 x _ _ M 0 1 _ YB (by simp) hM4 (by decide) (by decide) (by decide));have hrc:=YA.r.cell;generalize d_ 16 x 0=WF at *;clear qJ;have qJ:=Z_ YA;have hMF:F<M:=by omega
   have Jh:=Z_ YB;clear YA hM4 YB Sr;go_upto_region 8 with (fail)
   try rw [hM]
   generalize u4.alloc (.cells #[.int .i64 0] 3)=u5 at *;go_wp2_with fail
   refine HW.out.mono ?_
   rintro e w6 ⟨rfl,EX,Uk⟩;have hu5:=qJ.out.ext.size
   have af9:PI w w6 R F (.int .i64 kx) (.string tx) (.int .i64 mx) (.slice ax nx cx) (.int .i64 0) (.int .i64 a) x:=
    ⟨qJ.out.r.aU EX (by omega),qJ.out.f.aU EX (by omega),qJ.out.ext.trans EX (fun i hi e=>by have:=qJ.out.hR;omega),(aQ (bJ (Nat.le_refl _) fun i hi hm=>⟨by simp only [Bool.or_eq_false_iff] at hm;exact hm.1,rfl⟩) _ _ (aQ (aN EX fun i _ e=>by rw [e];simp) _ _ Jh.out)),by omega,xC⟩
   clear qJ;have qJ:=Z_ af9;clear af9 EX Uk HW hrc;obtain⟨wb,wm⟩:=WF;cases wb with
   | true=>
    have ZF:=Z_ (show Q=(x,(0:Int),(a:Int)) by have:=Ue.out;rw [if_pos rfl] at this;exact this.symm);have hdrop:=Jh;clear hdrop Jh;go_upto_region 10 with (fail)
    refine aj [2,3] (fun i v _=>v=([.agg #[.int .i64 kx,.string tx,.int .i64 mx,.slice ax nx cx],.agg #[.int .i64 0,.int .i64 a],undef,undef]:List Value).getD i undef) (fun _ u=>PI w u R F (.int .i64 kx) (.string tx) (.int .i64 mx) (.slice ax nx cx) (.int .i64 0) (.int .i64 a) x) (fun _ _=>True) (frame:=?JH) (fun x=>?wX) mixed (by kernel_rfl) (by kernel_rfl) (fun _ _ _ _ h _=>h) ?JI ?JJ ?wY
    case wX=>
     simp only [chain.aS,chain.fill,chain.bT,chain.bC,oV,oW,oZ,o5,o6,o7,o8,o_,pq];exact rfl
    case JI=>exact qJ.out.drew
    case JJ=>
     iterate 4 (refine ak.cons (fun x vs u hF hm hb hd K' hK'=>?_) ?_;rotate_left)
     exact ak.nil
     ·have hc:=hF.r.cell;have HF:=Z_ hF;clear hd hm hb hF;go_simp;exact hK'.out _ _ _ rfl trivial ⟨rfl,HF.out⟩
     ·have hc:=hF.f.cell;have HF:=Z_ hF;clear hd hm hb hF;go_simp;exact hK'.out _ _ _ rfl trivial ⟨rfl,HF.out⟩
     ·have y0:x 30=.agg #[.int .i64 kx,.string tx,.int .i64 mx,.slice ax nx cx]:=(D_ hd 0 :);have hc:=hF.r.cell;have hf:=hF.r.frozen;have hl:=hF.r.lt;have HF:=Z_ hF;clear hd hm hb hF;go_simp;exact hK'.out _ _ undef (by simp only [y0];rfl) trivial HF.out.af4
     ·have y0:x 31=.agg #[.int .i64 0,.int .i64 a]:=(D_ hd 1 :);have hc:=hF.f.cell;have hf:=hF.f.frozen;have hl:=hF.f.lt;have HF:=Z_ hF;clear hd hm hb hF;go_simp;exact hK'.out _ _ undef (by simp only [y0];rfl) trivial HF.out.af5
    case wY=>
     intro x vs w9 hl hF hk;have vh:=Z_ hF;clear hk hl hF;go_wp2_with fail
     refine leaves_cons (f:=47) (args:=#[.pointer (some ⟨R,0,none⟩),.pointer (some ⟨F,0,none⟩)]) (by simp) (by simp [go_sem]) ?_
     refine(BN R F _).mono ?_
     rintro e u' w'' ⟨rfl,rfl,rfl⟩;exact⟨_,m_ rfl _ _ rfl vh.out.r Tryz.underlying24 rfl (by kernel_rfl) rfl vh.out.f Tryz.underlying27 rfl (by kernel_rfl),vh.out.post ZF.out⟩
   | false=>
    have ZF:=Z_ (show Q=(kE,1,0) by have:=Ue.out;simp only [Bool.false_eq_true,↓reduceIte] at this;exact this.symm);have hrc:=qJ.out.r.cell;have hrf:=qJ.out.r.frozen;have hrl:=qJ.out.r.lt;have hfc:=qJ.out.f.cell;have Yj:=qJ.out.f.frozen;have hfl:=qJ.out.f.lt;have hCR:aB (fun i=>i=R) w6 ((((w6.setCell ⟨R,0,none⟩ (.int .i64 0)).setCell ⟨R,1,none⟩ (.string ⟨#[]⟩)).setCell ⟨R,2,none⟩ (.int .i64 0)).setCell ⟨R,3,none⟩ (.slice none 0 0)):=aA (aA (aA (aA (aB.refl _ _) 0 _) 1 _) 2 _) 3 _
    have YC:PI w ((((w6.setCell ⟨R,0,none⟩ (.int .i64 0)).setCell ⟨R,1,none⟩ (.string ⟨#[]⟩)).setCell ⟨R,2,none⟩ (.int .i64 0)).setCell ⟨R,3,none⟩ (.slice none 0 0)) R F (.int .i64 0) (.string ⟨#[]⟩) (.int .i64 0) (.slice none 0 0) (.int .i64 0) (.int .i64 a) kE:=
     ⟨(((qJ.out.r.set 0 _).set 1 _).set 2 _).set 3 _,qJ.out.f.aU hCR (by omega),qJ.out.ext.trans hCR (fun i hi e=>by have:=qJ.out.hR;omega),oH _ _ _ _ (by decide),qJ.out.hR,xC⟩
    have af_:PI w ((((((w6.setCell ⟨R,0,none⟩ (.int .i64 0)).setCell ⟨R,1,none⟩ (.string ⟨#[]⟩)).setCell ⟨R,2,none⟩ (.int .i64 0)).setCell ⟨R,3,none⟩ (.slice none 0 0)).setCell ⟨F,0,none⟩ (.int .i64 1)).setCell ⟨F,1,none⟩ (.int .i64 0)) R F (.int .i64 0) (.string ⟨#[]⟩) (.int .i64 0) (.slice none 0 0) (.int .i64 1) (.int .i64 0) kE:=
     ⟨(YC.r.setOther (p:=⟨F,0,none⟩) (by show R≠F;omega) _).setOther (p:=⟨F,1,none⟩) (by show R≠F;omega) _,(YC.f.set 0 _).set 1 _,(YC.ext.bM (p:=⟨F,0,none⟩) (by show w.heap.size≤F;have:=YC.hR;omega) _).bM (p:=⟨F,1,none⟩) (by show w.heap.size≤F;have:=YC.hR;omega) _,oH _ _ _ _ (by decide),YC.hR,xC⟩
    have HPZ:=Z_ af_;clear YC af_ hCR;go_wp2_with fail
    refine leaves_cons (f:=47) (args:=#[.pointer (some ⟨R,0,none⟩),.pointer (some ⟨F,0,none⟩)]) (by simp) (by simp [go_sem]) ?_
    refine(BN R F _).mono ?_
    rintro e u' w'' ⟨rfl,rfl,rfl⟩;exact⟨_,m_ rfl _ _ rfl HPZ.out.r Tryz.underlying24 rfl (by kernel_rfl) rfl HPZ.out.f Tryz.underlying27 rfl (by kernel_rfl),HPZ.out.post ZF.out⟩
 ·have uM:=Z_ (show Q=(kE,c,(a:Int)) by have:=HQ.out;rw [if_neg hc0] at this;exact this.symm)
  have hcn:(c != 0)=true:=by simpa using hc0
  clear HQ;go_upto_region 3 with (fail)
  refine aj [2,3] (fun i v _=>v=([.agg #[.int .i64 0,.string ⟨#[]⟩,.int .i64 0,.slice none 0 0],.agg #[.int .i64 c,.int .i64 a],undef,undef]:List Value).getD i undef) (fun _ u=>PI w u R F (.int .i64 0) (.string ⟨#[]⟩) (.int .i64 0) (.slice none 0 0) (.int .i64 c) (.int .i64 a) kE) (fun _ _=>True) (frame:=?Kv) (fun x=>?xj) mixed (by kernel_rfl) (by kernel_rfl) (fun _ _ _ _ h _=>h) ?Kw ?Ky ?xk
  case xj=>
   simp only [chain.aS,chain.fill,chain.bT,chain.bC,oV,oW,oZ,o5,o6,o7,o8,o_,pq];exact rfl
  case Kw=>exact qJ.out.drew
  case Ky=>
   iterate 4 (refine ak.cons (fun x vs u hF hm hb hd K' hK'=>?_) ?_;rotate_left)
   exact ak.nil
   ·have hc:=hF.r.cell;have HF:=Z_ hF;clear hd hm hb hF;go_simp;exact hK'.out _ _ _ rfl trivial ⟨rfl,HF.out⟩
   ·have hc:=hF.f.cell;have HF:=Z_ hF;clear hd hm hb hF;go_simp;exact hK'.out _ _ _ rfl trivial ⟨rfl,HF.out⟩
   ·have y0:x 15=.agg #[.int .i64 0,.string ⟨#[]⟩,.int .i64 0,.slice none 0 0]:=(D_ hd 0 :);have hc:=hF.r.cell;have hf:=hF.r.frozen;have hl:=hF.r.lt;have HF:=Z_ hF;clear hd hm hb hF;go_simp;exact hK'.out _ _ undef (by simp only [y0];rfl) trivial HF.out.af4
   ·have y0:x 16=.agg #[.int .i64 c,.int .i64 a]:=(D_ hd 1 :);have hc:=hF.f.cell;have hf:=hF.f.frozen;have hl:=hF.f.lt;have HF:=Z_ hF;clear hd hm hb hF;go_simp;exact hK'.out _ _ undef (by simp only [y0];rfl) trivial HF.out.af5
  case xk=>
   intro x vs w9 hl hF hk;have vh:=Z_ hF;clear hk hl hF;go_wp2_with fail
   exact⟨_,m_ rfl _ _ rfl vh.out.r Tryz.underlying24 rfl (by kernel_rfl) rfl vh.out.f Tryz.underlying27 rfl (by kernel_rfl),vh.out.post uM.out⟩
end bH
end Go.Proofs.YtpcihajmcejliacGreatDoor
namespace Go.Proofs.YtpcihajmcejliacGreatDoor
open Go.RowKit
def jr (t:ByteArray):Prop:=nameB t.data.toList=true
def lu (t:ByteArray):Prop:=jr t∨∃ a b,jr a∧jr b∧t=a++(uO++b)
def mJ (k:Int):Prop:=15≤k∧k≤21
def Jd (k:Int):Prop:=k=16∨k=17
def uP (k:Int):Prop:=7≤k∧k≤14
inductive Form:Int→ByteArray→Int→List Nd→Prop
 | module {t:ByteArray} {a b:List Nd} (ht:jr t) (ha:∀ y∈a,y.kd=2) (hb:∀ y∈b,y.kd=3∨y.kd=4):Form 1 t 0 (a++b)
 | imp {t:ByteArray} (ht:jr t):Form 2 t 0 []
 | var {t:ByteArray} {m:Int} (ht:jr t) (h0:0≤m) (h1:m≤3):Form 3 t m []
 | array {t:ByteArray} {m:Int} {y:Nd} (ht:jr t) (h0:0≤m) (h1:m≤3) (hy:y.kd=15):Form 3 t m [y]
 | proc {t:ByteArray} {m:Int} {ps:List Nd} {b:Nd} (ht:jr t) (h0:0≤m) (h1:m≤11) (hp:∀ y∈ps,y.kd=5) (hb:b.kd=6):Form 4 t m (ps ++ [b])
 | param {t:ByteArray} {m:Int} (ht:jr t) (h0:0≤m) (h1:m≤1):Form 5 t m []
 | block {l:List Nd} (hl:∀ y∈l,uP y.kd):Form 6 aF 0 l
 | loc {t:ByteArray} {m:Int} {x:Nd} (ht:jr t) (h0:0≤m) (h1:m≤1) (hx:mJ x.kd):Form 7 t m [x]
 | set {p x:Nd} (hp:Jd p.kd) (hx:mJ x.kd):Form 8 aF 0 [p,x]
 | Wy {c:Nd} (hc:c.kd=18):Form 9 aF 0 [c]
 | WA {x b:Nd} (hx:mJ x.kd) (hb:b.kd=6):Form 10 aF 0 [x,b]
 | WB {x b c:Nd} (hx:mJ x.kd) (hb:b.kd=6) (hc:c.kd=6):Form 10 aF 0 [x,b,c]
 | uV {x b:Nd} (hx:mJ x.kd) (hb:b.kd=6):Form 11 aF 0 [x,b]
 | out {m:Int} {x:Nd} (h0:0≤m) (h1:m≤1) (hx:mJ x.kd):Form 12 aF m [x]
 | inp {m:Int} {x:Nd} (h0:0≤m) (h1:m≤1) (hx:Jd x.kd):Form 13 aF m [x]
 | ret {x:Nd} (hx:mJ x.kd):Form 14 aF 0 [x]
 | num {m:Int} (h0:0≤m) (h1:m<9223372036854775808):Form 15 aF m []
 | name {t:ByteArray} (ht:lu t):Form 16 t 0 []
 | item {t:ByteArray} {x:Nd} (ht:lu t) (hx:mJ x.kd):Form 17 t 0 [x]
 | call {t:ByteArray} {l:List Nd} (ht:lu t) (hl:∀ y∈l,mJ y.kd):Form 18 t 0 l
 | op {m:Int} {x y:Nd} (h0:1≤m) (h1:m≤9) (hx:mJ x.kd) (hy:mJ y.kd):Form 19 aF m [x,y]
 | neg {x:Nd} (hx:mJ x.kd):Form 20 aF 0 [x]
 | not_ {x:Nd} (hx:mJ x.kd):Form 21 aF 0 [x]
inductive fC:Nd→Prop
 | mk {k:Int} {t:ByteArray} {m:Int} {l:List Nd} (hf:Form k t m l) (hl:∀ y∈l,fC y):fC (.mk k t m l)
theorem fC.form {k:Int} {t:ByteArray} {m:Int} {l:List Nd} (h:fC (.mk k t m l)):Form k t m l:=by cases h;assumption
theorem fC.kids {k:Int} {t:ByteArray} {m:Int} {l:List Nd} (h:fC (.mk k t m l)):∀ y∈l,fC y:=by cases h;assumption
namespace pU
open ofm bZ
theorem oh {P:Nd→Prop} {x:Nd} (h:P x):∀ y∈[x],P y:=fun y hy=>by rw [List.mem_singleton] at hy;subst hy;exact h
theorem zI {P:Nd→Prop} {x z:Nd} (h:P x) (h2:P z):∀ y∈[x,z],P y:=fun y hy=>by
 simp only [List.mem_cons,List.not_mem_nil,or_false] at hy;rcases hy with rfl|rfl
 ·exact h
 ·exact h2
theorem Xd {P:Nd→Prop} {x z q:Nd} (h:P x) (h2:P z) (h3:P q):∀ y∈[x,z,q],P y:=fun y hy=>by
 simp only [List.mem_cons,List.not_mem_nil,or_false] at hy;rcases hy with rfl|rfl|rfl
 ·exact h
 ·exact h2
 ·exact h3
theorem snoc {P:Nd→Prop} {l:List Nd} {x:Nd} (h:∀ y∈l,P y) (hx:P x):∀ y∈l ++ [x],P y:=fun y hy=>by
 rw [List.mem_append,List.mem_singleton] at hy;rcases hy with hy|rfl
 ·exact h y hy
 ·exact hx
theorem qQ {s:ByteArray} {l r:List Tk} (h:fP l=.got s r) (ho:∀ t∈l,mQ t):jr s:=by
 cases l with
 | nil=>cases h
 | cons t q=>
  simp only [fP] at h;split at h
  ·rename_i hk
   injection h with h1 _
   subst h1;have hw:=(ho t (by simp)).word hk.1;unfold jr nameB;rw [hw,hk.2];rfl
  ·cases h
theorem xW {s:ByteArray} {l r:List Tk} (h:iO l=.got s r) (ho:∀ t∈l,mQ t):lu s:=by
 unfold iO at h;obtain⟨a,l1,h1,h⟩:=ag h;have ha:=qQ h1 ho;have h1o:=lW h1 ho;split at h
 ·obtain⟨b,l2,h2,h⟩:=ag h
  have hb:=qQ h2 (dB h1o);injection h with h _
  exact .inr ⟨a,b,ha,hb,h.symm⟩
 ·injection h with h _
  subst h;exact .inl ha
theorem Su {x:Nd} {l r:List Tk} (h:gu l=.got x r) (ho:∀ t∈l,mQ t):fC x∧x.kd=15:=by
 obtain⟨t,ht,hk,rfl⟩:=Sv h;have htl:t∈l:=List.mem_of_mem_head? ht;have:=((ho t htl).num hk).2.2;refine⟨.mk (.num (by unfold valOf;omega) (by unfold valOf;omega)) (fun y hy=>by cases hy),rfl⟩
theorem ag0 {s:ByteArray} {k:Nat} (h:(lI s).2=k):1≤(lI s).1∧(lI s).1≤9:=by
 unfold lI at h ⊢
 repeat' split
 all_goals first|decide|skip
 simp_all
def aw1:NT→Prop
 | .loop _ x=>fC x∧mJ x.kd
 | .place s=>lu s
 | .call s=>lu s
 | .args s acc=>lu s∧∀ y∈acc,fC y∧mJ y.kd
 | .stats acc=>∀ y∈acc,fC y∧uP y.kd
 | .proc pub=>pub=0∨pub=2
 | .params s pub acc=>jr s∧(pub=0∨pub=2)∧∀ y∈acc,fC y∧y.kd=5
 | .imports s acc=>jr s∧∀ y∈acc,fC y∧y.kd=2
 | .decls s acc=>jr s∧∃ a b,acc=a++b∧(∀ y∈a,fC y∧y.kd=2)∧∀ y∈b,fC y∧(y.kd=3∨y.kd=4)
 | _=>True
def ag1:NT→Int→Prop
 | .expr,k=>mJ k
 | .bound _,k=>mJ k
 | .loop _ _,k=>mJ k
 | .unary,k=>mJ k
 | .asked,k=>mJ k
 | .place _,k=>Jd k
 | .call _,k=>k=18
 | .args _ _,k=>k=18
 | .block,k=>k=6
 | .stats _,k=>k=6
 | .stat,k=>uP k
 | .decl,k=>k=3∨k=4
 | .proc _,k=>k=4
 | .params _ _ _,k=>k=4
 | .module,k=>k=1
 | .imports _ _,k=>k=1
 | .decls _ _,k=>k=1
theorem zA {k:Int} (h:Jd k):mJ k:=by unfold Jd at h;unfold mJ;omega
theorem fst {P Q:Nd→Prop} {l:List Nd} (h:∀ y∈l,P y∧Q y):∀ y∈l,P y:=fun y hy=>(h y hy).1
theorem snd {P Q:Nd→Prop} {l:List Nd} (h:∀ y∈l,P y∧Q y):∀ y∈l,Q y:=fun y hy=>(h y hy).2
theorem qR {x y:Nd} {l r:List Tk} (h:nC x l=.got y r):y=x:=by
 unfold nC at h;obtain⟨_,_,_,h⟩:=ag h;injection h with h _
 exact h.symm
theorem YD (n:Nat):∀ (X:NT) (l:List Tk) (x:Nd) (r:List Tk),(∀ t∈l,mQ t)→aw1 X→bn n X l=.got x r→fC x∧ag1 X x.kd:=by
 induction n with
 | zero=>intro X l x r _ _ h;cases X<;>cases h
 | succ n ih=>
  intro X l x r ho hp h;have sub:∀ {Y:NT} {l r:List Tk} {y:Nd},(∀ t∈l,mQ t)→bn n Y l=.got y r→∀ t∈r,mQ t:=fun ho h=>LX n _ _ _ _ ho h
  cases X with
  | expr=>simp only [bn] at h;exact ih (.bound 0) _ _ _ ho trivial h
  | bound k=>
   simp only [bn] at h;split at h
   ·exact ih .unary _ _ _ ho trivial h
   ·obtain⟨y,l1,h1,h⟩:=ag h
    have hy:=ih (.bound (k+1)) _ _ _ ho trivial h1;exact ih (.loop k y) _ _ _ (sub ho h1) hy h
  | loop k y=>
   simp only [bn] at h;split at h
   ·rename_i hk
    obtain⟨z,l1,h1,h⟩:=ag h;have hz:=ih (.bound (k+1)) _ _ _ (dB ho) trivial h1;have hop:=ag0 hk.2;have hnew:fC (.mk 19 aF (lI (textOf l)).1 [y,z])∧mJ (Nd.mk 19 aF (lI (textOf l)).1 [y,z]).kd:=⟨.mk (.op hop.1 hop.2 hp.2 hz.2) (zI hp.1 hz.1),by show mJ 19;unfold mJ;omega⟩;split at h
    ·injection h with h _
     subst h;exact hnew
    ·exact ih (.loop k (.mk 19 aF (lI (textOf l)).1 [y,z])) _ _ _ (sub (dB ho) h1) hnew h
   ·injection h with h _
    subst h;exact hp
  | unary=>
   simp only [bn] at h;split at h
   ·obtain⟨y,l1,h1,h⟩:=ag h
    have hy:=ih .unary _ _ _ (dB ho) trivial h1;injection h with h _
    subst h;exact⟨.mk (.neg hy.2) (oh hy.1),by show mJ 20;unfold mJ;omega⟩
   ·split at h
    ·obtain⟨y,l1,h1,h⟩:=ag h
     have hy:=ih .unary _ _ _ (dB ho) trivial h1;injection h with h _
     subst h;exact⟨.mk (.not_ hy.2) (oh hy.1),by show mJ 21;unfold mJ;omega⟩
    ·split at h
     ·exact ih .asked _ _ _ ho trivial h
     ·split at h
      ·obtain⟨h1,h2⟩:=Su h ho
       exact⟨h1,by show mJ x.kd;rw [h2];unfold mJ;omega⟩
      ·obtain⟨s,l1,h1,h⟩:=ag h
       have hs:=xW h1 ho;have ho1:=xX (sS h1) ho;split at h
       ·obtain⟨h2,h3⟩:=ih (.call s) _ _ _ ho1 hs h
        exact⟨h2,by show mJ x.kd;rw [show x.kd=18 from h3];unfold mJ;omega⟩
       ·obtain⟨h2,h3⟩:=ih (.place s) _ _ _ ho1 hs h
        exact⟨h2,zA h3⟩
  | asked=>
   simp only [bn] at h;obtain⟨_,l1,h1,h⟩:=ag h;obtain⟨y,l2,h2,h⟩:=ag h;obtain⟨_,l3,h3,h⟩:=ag h;injection h with h _
   subst h;exact ih .expr _ _ _ (jH h1 ho) trivial h2
  | place s=>
   simp only [bn] at h;split at h
   ·obtain⟨y,l1,h1,h⟩:=ag h
    have hy:=ih .expr _ _ _ (dB ho) trivial h1;obtain⟨_,l2,h2,h⟩:=ag h;injection h with h _
    subst h;exact⟨.mk (.item hp hy.2) (oh hy.1),.inr rfl⟩
   ·injection h with h _
    subst h;exact⟨.mk (.name hp) (fun y hy=>by cases hy),.inl rfl⟩
  | call s=>
   simp only [bn] at h;obtain⟨_,l1,h1,h⟩:=ag h;exact ih (.args s []) _ _ _ (jH h1 ho) ⟨hp,fun y hy=>by cases hy⟩ h
  | args s acc=>
   obtain⟨hs,ha⟩:=hp;simp only [bn] at h;split at h
   ·obtain⟨_,l1,h1,h⟩:=ag h
    injection h with h _
    subst h;exact⟨.mk (.call hs (snd ha)) (fst ha),rfl⟩
   ·obtain⟨y,l1,h1,h⟩:=ag h
    have hy:=ih .expr _ _ _ ho trivial h1;have ho1:=sub ho h1;split at h
    ·exact ih (.args s (acc ++ [y])) _ _ _ (dB ho1) ⟨hs,snoc ha hy⟩ h
    ·obtain⟨_,l2,h2,h⟩:=ag h
     injection h with h _
     subst h;exact⟨.mk (.call hs (snoc (snd ha) hy.2)) (snoc (fst ha) hy.1),rfl⟩
  | block=>
   simp only [bn] at h;obtain⟨_,l1,h1,h⟩:=ag h;exact ih (.stats []) _ _ _ (jH h1 ho) (fun y hy=>by cases hy) h
  | stats acc=>
   simp only [bn] at h;split at h
   ·injection h with h _
    subst h;exact⟨.mk (.block (snd hp)) (fst hp),rfl⟩
   ·obtain⟨y,l1,h1,h⟩:=ag h
    have hy:=ih .stat _ _ _ ho trivial h1;exact ih (.stats (acc ++ [y])) _ _ _ (sub ho h1) (snoc hp hy) h
  | stat=>
   simp only [bn] at h;split at h
   ·obtain⟨b,l1,h1,h⟩:=ag h
    obtain⟨s,l2,h2,h⟩:=ag h;obtain⟨_,l3,h3,h⟩:=ag h;obtain⟨y,l4,h4,h⟩:=ag h;have hb:=qy h1;have ho1:=qU h1 ho;have ho2:=lW h2 ho1;have ho3:=jH h3 ho2;have hy:=ih .expr _ _ _ ho3 trivial h4;rw [qR h];exact⟨.mk (.loc (qQ h2 ho1) hb.1 hb.2 hy.2) (oh hy.1),by show uP 7;unfold uP;omega⟩
   ·split at h
    ·obtain⟨s,l1,h1,h⟩:=ag h
     obtain⟨y,l2,h2,h⟩:=ag h;have hy:=ih (.call s) _ _ _ (xX (sS h1) (dB ho)) (xW h1 (dB ho)) h2;rw [qR h];exact⟨.mk (.Wy hy.2) (oh hy.1),by show uP 9;unfold uP;omega⟩
    ·split at h
     ·obtain⟨y,l1,h1,h⟩:=ag h
      have hy:=ih .asked _ _ _ (dB ho) trivial h1;have ho1:=sub (dB ho) h1;obtain⟨b,l2,h2,h⟩:=ag h;have hb:=ih .block _ _ _ ho1 trivial h2;have ho2:=sub ho1 h2;split at h
      ·obtain⟨c,l3,h3,h⟩:=ag h
       have hc:=ih .block _ _ _ (dB ho2) trivial h3;injection h with h _
       subst h;exact⟨.mk (.WB hy.2 hb.2 hc.2) (Xd hy.1 hb.1 hc.1),by show uP 10;unfold uP;omega⟩
      ·injection h with h _
       subst h;exact⟨.mk (.WA hy.2 hb.2) (zI hy.1 hb.1),by show uP 10;unfold uP;omega⟩
     ·split at h
      ·obtain⟨y,l1,h1,h⟩:=ag h
       have hy:=ih .asked _ _ _ (dB ho) trivial h1;have ho1:=sub (dB ho) h1;obtain⟨b,l2,h2,h⟩:=ag h;have hb:=ih .block _ _ _ ho1 trivial h2;injection h with h _
       subst h;exact⟨.mk (.uV hy.2 hb.2) (zI hy.1 hb.1),by show uP 11;unfold uP;omega⟩
      ·split at h
       ·obtain⟨b,l1,h1,h⟩:=ag h
        obtain⟨y,l2,h2,h⟩:=ag h;have hb:=qy h1;have hy:=ih .expr _ _ _ (qU h1 (dB ho)) trivial h2;rw [qR h];exact⟨.mk (.out hb.1 hb.2 hy.2) (oh hy.1),by show uP 12;unfold uP;omega⟩
       ·split at h
        ·obtain⟨b,l1,h1,h⟩:=ag h
         obtain⟨s,l2,h2,h⟩:=ag h;obtain⟨y,l3,h3,h⟩:=ag h;have hb:=qy h1;have ho1:=qU h1 (dB ho);have hy:=ih (.place s) _ _ _ (xX (sS h2) ho1) (xW h2 ho1) h3;rw [qR h];exact⟨.mk (.inp hb.1 hb.2 hy.2) (oh hy.1),by show uP 13;unfold uP;omega⟩
        ·split at h
         ·obtain⟨y,l1,h1,h⟩:=ag h
          have hy:=ih .expr _ _ _ (dB ho) trivial h1;rw [qR h];exact⟨.mk (.ret hy.2) (oh hy.1),by show uP 14;unfold uP;omega⟩
         ·obtain⟨s,l1,h1,h⟩:=ag h
          obtain⟨p,l2,h2,h⟩:=ag h;obtain⟨_,l3,h3,h⟩:=ag h;obtain⟨y,l4,h4,h⟩:=ag h;have ho1:=xX (sS h1) ho;have hq:=ih (.place s) _ _ _ ho1 (xW h1 ho) h2;have hy:=ih .expr _ _ _ (jH h3 (sub ho1 h2)) trivial h4;rw [qR h];exact⟨.mk (.set hq.2 hy.2) (zI hq.1 hy.1),by show uP 8;unfold uP;omega⟩
  | decl=>
   simp only [bn] at h;have GN:∀ {b:Bool},(if b=true then (2:Int) else 0)=0∨(if b=true then (2:Int) else 0)=2:=by intro b;cases b<;>simp
   have ho0:∀ t∈(if eY l [rL]=true then l.tail else l),mQ t:=by split;exact dB ho;exact ho
   generalize (if eY l [rL]=true then l.tail else l)=l0 at h ho0;have hpb:=@GN (eY l [rL]);generalize (if eY l [rL]=true then (2:Int) else 0)=pb at h hpb;split at h
   ·obtain⟨h1,h2⟩:=ih (.proc pb) _ _ _ (dB ho0) hpb h
    exact⟨h1,.inr h2⟩
   ·obtain⟨b,l1,h1,h⟩:=ag h
    obtain⟨s,l2,h2,h⟩:=ag h;have hb:=qy h1;have ho1:=qU h1 ho0;have hs:=qQ h2 ho1;have ho2:=lW h2 ho1;split at h
    ·obtain⟨y,l3,h3,h⟩:=ag h
     obtain⟨_,l4,h4,h⟩:=ag h;have hy:=Su h3 (dB ho2);rw [qR h];exact⟨.mk (.array hs (by omega) (by omega) hy.2) (oh hy.1),.inl rfl⟩
    ·rw [qR h]
     exact⟨.mk (.var hs (by omega) (by omega)) (fun y hy=>by cases hy),.inl rfl⟩
  | proc pub=>
   simp only [bn] at h;obtain⟨s,l1,h1,h⟩:=ag h;obtain⟨_,l2,h2,h⟩:=ag h;exact ih (.params s pub []) _ _ _ (jH h2 (lW h1 ho)) ⟨qQ h1 ho,hp,fun y hy=>by cases hy⟩ h
  | params s pub acc=>
   obtain⟨hs,hpb,ha⟩:=hp
   have hdone:∀ (acc:List Nd) (l:List Tk),(∀ y∈acc,fC y∧y.kd=5)→(∀ t∈l,mQ t)→((dU aV l).bind fun _ l=>(dJ l).bind fun b l=>
     if eY l [iJ]=true then (dJ l.tail).bind fun g l=>(bn n .block l).bind fun x l=>.got (.mk 4 s (pub+b+(4+4*g)) (acc ++ [x])) l
     else (bn n .block l).bind fun x l=>.got (.mk 4 s (pub+b) (acc ++ [x])) l)=Out.got x r→fC x∧x.kd=4:=by
    intro acc l hacc ho h;obtain⟨_,l1,h1,h⟩:=ag h;have ho1:=jH h1 ho;obtain⟨b,l2,hb,h⟩:=ag h;have ho2:=qU hb ho1;have hb:=qy hb;split at h
    ·obtain⟨g,l3,hg,h⟩:=ag h
     have ho3:=qU hg (dB ho2);have hg:=qy hg;obtain⟨y,l4,h4,h⟩:=ag h;have hy:=ih .block _ _ _ ho3 trivial h4;injection h with h1 _
     subst h1;exact⟨.mk (.proc hs (by omega) (by omega) (snd hacc) hy.2) (snoc (fst hacc) hy.1),rfl⟩
    ·obtain⟨y,l4,h4,h⟩:=ag h
     have hy:=ih .block _ _ _ ho2 trivial h4;injection h with h1 _
     subst h1;exact⟨.mk (.proc hs (by omega) (by omega) (snd hacc) hy.2) (snoc (fst hacc) hy.1),rfl⟩
   simp only [bn] at h;split at h
   ·exact hdone _ _ ha ho h
   ·obtain⟨b,l1,h1,h⟩:=ag h
    obtain⟨p,l2,h2,h⟩:=ag h;have ho1:=qU h1 ho;have hpn:=qQ h2 ho1;have ho2:=lW h2 ho1;have hb:=qy h1;have Ik:∀ q∈acc ++ [Nd.mk 5 p b []],fC q∧q.kd=5:=snoc ha ⟨.mk (.param hpn hb.1 hb.2) (fun y hy=>by cases hy),rfl⟩;split at h
    ·exact ih (.params s pub (acc ++ [.mk 5 p b []])) _ _ _ (dB ho2) ⟨hs,hpb,Ik⟩ h
    ·exact hdone _ _ Ik ho2 h
  | module=>
   simp only [bn] at h;obtain⟨_,l1,h1,h⟩:=ag h;obtain⟨s,l2,h2,h⟩:=ag h;obtain⟨_,l3,h3,h⟩:=ag h;have ho1:=jH h1 ho;have ho2:=lW h2 ho1;exact ih (.imports s []) _ _ _ (jH h3 ho2) ⟨qQ h2 ho1,fun y hy=>by cases hy⟩ h
  | imports s acc=>
   obtain⟨hs,ha⟩:=hp;simp only [bn] at h;split at h
   ·obtain⟨p,l1,h1,h⟩:=ag h
    obtain⟨_,l2,h2,h⟩:=ag h;have ho1:=lW h1 (dB ho);exact ih (.imports s (acc ++ [.mk 2 p 0 []])) _ _ _ (jH h2 ho1) ⟨hs,snoc ha ⟨.mk (.imp (qQ h1 (dB ho))) (fun y hy=>by cases hy),rfl⟩⟩ h
   ·exact ih (.decls s acc) _ _ _ ho ⟨hs,acc,[],by simp,ha,fun y hy=>by cases hy⟩ h
  | decls s acc=>
   obtain⟨hs,a,b,rfl,ha,hb⟩:=hp;simp only [bn] at h;split at h
   ·injection h with h _
    subst h;refine⟨.mk (.module hs (snd ha) (snd hb)) (fun y hy=>?_),rfl⟩
    rcases List.mem_append.1 hy with hy|hy
    ·exact(ha y hy).1
    ·exact(hb y hy).1
   ·obtain⟨y,l1,h1,h⟩:=ag h
    have hy:=ih .decl _ _ _ ho trivial h1;exact ih (.decls s (a++b ++ [y])) _ _ _ (sub ho h1) ⟨hs,a,b ++ [y],by rw [List.append_assoc],ha,snoc hb hy⟩ h
end pU
theorem Bi (s:ByteArray) (h:(aZ s).2.1=0):fC (aZ s).1∧(aZ s).1.kd=1∧Vf (aZ s).1≤16∧dL (aZ s).1≤500:=by
 unfold aZ at h ⊢;obtain⟨T,hT⟩:∃ T,jY s.data.toList=T:=⟨_,rfl⟩;rw [hT] at h ⊢;obtain⟨ts,c,a⟩:=T;simp only at h ⊢;by_cases hc:c=0
 ·subst hc
  obtain⟨-,hok,-⟩:=Sl.BM s ts a hT;rw [if_pos rfl] at h ⊢;cases hp:bn (20*ts.length+5) .module (n_ s ts) with
  | out=>exact absurd hp (bZ.EO _ _ _ (by simp [n_,NT.rank]))
  | bad l=>rw [hp] at h;exact absurd (show (2:Int)=0 from h) (by decide)
  | got x r=>
   rw [hp] at h;simp only at h ⊢;by_cases hw:(d_ 16 x 0).1=true
   ·rw [if_pos hw] at h ⊢
    have h1:=pU.YD _ .module _ _ _ hok trivial hp;have h2:=(vY 16 x 0 (by omega)).1.1 hw;exact⟨h1.1,h1.2,h2.1,by show dL x≤500;omega⟩
   ·rw [if_neg hw] at h
    exact absurd (show (1:Int)=0 from h) (by decide)
 ·rw [if_neg hc] at h
  exact absurd h hc
end Go.Proofs.YtpcihajmcejliacGreatDoor
namespace Go.Proofs.YtpcihajmcejliacGreatDoor
open Go.RowKit
namespace ofw
open bH
theorem Jq (l:List Nd) (q:Nat):gm (l.drop q)≤gm l:=by
 induction l generalizing q with
 | nil=>simp
 | cons x r ih=>
  cases q with
  | zero=>simp
  | succ q=>
   have:=ih q;simp only [List.drop_succ_cons,gm];omega
set_option maxRecDepth 100000 in
set_option maxHeartbeats 4000000 in
theorem Bo:∀ (x:Nd) (v:Value) (w:World) (H:Nat→Bool),ij (hide H w) x v→dL x≤100000→
  Calls Tryz.prog 114 #[v] w fun e w'=>e=.returned (.int .i64 (dL x:Nat))∧Ext w w':=by
 refine gz fun k t n l ih v w H hx hmo=>?_
 rw [dY] at hx;obtain⟨a,cc,rfl,hx1,hx2,hx3,LY⟩:=hx;obtain⟨N,hN⟩:∃ N,l.length=N:=⟨_,rfl⟩;have Uc:N≤9223372036854775807:=by unfold maxLen at hx2;omega
 have HN:=Z_ hN;rw [hN];have HIH:=Z_ ih;have HI:=Z_ (fun (u:World) (hE:Ext w u)=>LY.keeps (aN hE fun i _ e=>e.elim) fun b o y=>jd (aN hE fun i _ e=>e.elim) b o y);obtain⟨R,hR⟩:∃ R,dL (.mk k t n l)=R:=⟨_,rfl⟩;rw [hR] at hmo ⊢;have HR:=Z_ hR;have ZA:=Z_ (Jq l);have hE1:=(aB.refl (fun _=>False) w).alloc (.cells #[.int .i64 k,.string t,.int .i64 n,.slice a N cc] 24);have HK:=Z_ (aJ.made w #[.int .i64 k,.string t,.int .i64 n,.slice a N cc] 24);have J0:=Z_ hE1;obtain⟨P,hP⟩:∃ P,w.heap.size=P:=⟨_,rfl⟩;rw [hP] at HK;clear hR LY hN ih hE1;go_enter Tryz.func114,Tryz.ntmps114
 go_upto_region 1 with (fail)
 generalize w.alloc (.cells #[.int .i64 k,.string t,.int .i64 n,.slice a N cc] 24)=w1 at *;have hc:=HK.out.cell;go_wp2_with fail
 clear hc;go_loopw [3,9] (fun kk i wr=>∃ q m:Nat,q≤N∧kk=.int .i64 m∧i=.int .i64 q∧Hid (m+gm (l.drop q)=R)∧Hid (Ext w wr)∧Hid (aJ wr P #[.int .i64 k,.string t,.int .i64 n,.slice a N cc] 24)) (fun _ i _=>N-(intOf i).toNat)
 case atStart=>exact⟨0,1,Nat.zero_le _,rfl,rfl,by have:=HR.out;simp only [dL] at this;rw [List.drop_zero];show 1+gm l=R;omega,J0,HK⟩
 clear J0 HK
 case round=>
  obtain⟨q,m,hq,rfl,rfl,hr,HE,HK⟩:=hrel;by_cases hlt:q<N
  ·have kN:q<l.length:=by rw [HN.out];exact hlt
   have hqi:(q:Int)<(N:Int):=by omega
   have ZT:decide ((q:Int)<(N:Int))=true:=by simpa using hqi
   obtain⟨b,o,rfl,hb,u,hu,hus,hcl⟩:=HI.out wr HE.out q kN;obtain⟨k1,t1,n1,a1,l1,c1,rfl⟩:=dF hu;have q0:wr.cell? ⟨b,o+q*4,none⟩=some (.int .i64 k1):=(aC H wr).2 _ _ ((hcl 0 (by decide)).trans rfl);have q1:wr.cell? ⟨b,o+q*4+1,none⟩=some (.string t1):=(aC H wr).2 _ _ ((hcl 1 (by decide)).trans rfl);have q2:wr.cell? ⟨b,o+q*4+2,none⟩=some (.int .i64 n1):=(aC H wr).2 _ _ ((hcl 2 (by decide)).trans rfl);have q3:wr.cell? ⟨b,o+q*4+3,none⟩=some (.slice a1 l1 c1):=(aC H wr).2 _ _ ((hcl 3 (by decide)).trans rfl);have hr2:=hr.out;rw [Hg kN] at hr2;have Kz:=Z_ (HE.out.alloc (.cells #[.int .i64 k1,.string t1,.int .i64 n1,.slice a1 l1 c1] 24));have HK4:=Z_ (HK.out.alloc (.cells #[.int .i64 k1,.string t1,.int .i64 n1,.slice a1 l1 c1] 24))
   have HC:=Z_ (HIH.out l[q] (List.getElem_mem kN) _ (wr.alloc (.cells #[.int .i64 k1,.string t1,.int .i64 n1,.slice a1 l1 c1] 24)) H (aQ (aN ((aB.refl (fun _=>False) wr).alloc _) fun i _ e=>e.elim) _ _ hu) (by omega));obtain⟨z,hz⟩:∃ z,dL l[q]=z:=⟨_,rfl⟩;rw [hz] at hr2 HC;have hpw:IntKind.i64.wrap ((m:Int)+(z:Int))=((m+z:Nat):Int):=by rw [wrap_small _ (by omega) (by omega)];omega
   have HR3:=Z_ hr2;clear hr hr2 hcl hu hz;go_upto_region 5 with (fail)
   have hc5:=(aJ.made wr #[.int .i64 k1,.string t1,.int .i64 n1,.slice a1 l1 c1] 24).cell;generalize wr.alloc (.cells #[.int .i64 k1,.string t1,.int .i64 n1,.slice a1 l1 c1] 24)=wz at *;go_wp2_with fail
   refine HC.out.mono ?_
   rintro e w5 ⟨rfl,xN⟩;have HE5:=Z_ (Kz.out.ext xN);have HK5:=Z_ (HK4.out.ext xN);clear xN HC HE HK Kz HK4 q0 q1 q2 q3 hc5;go_wp2_with fail
   go_roundw
   case rel=>exact⟨q+1,m+z,by omega,by first|rfl|simp [hpw],by go_num,by have:=HR3.out;show m+z+gm (l.drop (q+1))=R;omega,HE5,HK5⟩
   case measure=>simp [intOf];omega
  ·obtain rfl:q=N:=by omega
   have ZT:decide ((q:Int)<(q:Int))=false:=by simp
   have hT:=Z_ (show R=m by have:=hr.out;rw [List.drop_of_length_le (by rw [HN.out];exact Nat.le_refl _)] at this;simp only [gm] at this;omega);clear hr;go_wp2_with fail
   go_ret
   refine⟨?_,HE.out⟩;have e:=hT.out;subst e;first|rfl|simp
end ofw
end Go.Proofs.YtpcihajmcejliacGreatDoor
namespace Go.Proofs.YtpcihajmcejliacGreatDoor
open Go.RowKit
def aw2 (f:jw):Value:=.agg #[.string f.name,.bool f.pub,.int .i64 f.label,.int .i64 f.size]
def FA (x:jw) (v:Value) (_:World):Prop:=v=aw2 x∧x.name.size≤10000
def D8 (x:aO) (v:Value) (w:World):Prop:=∃ a c,v=.agg #[.string x.name,.bool x.pub,.slice a x.params.length c,.int .i64 x.writes,.bool x.gives,.int .i64 x.given]∧fN 1 jc w a x.params∧x.params.length≤c∧c≤maxLen∧x.name.size≤10000
def Hh (x:ByteArray) (v:Value) (_:World):Prop:=v=.string x∧x.size≤10000
def Sz (x:Int) (v:Value) (_:World):Prop:=v=.int .i64 x
def W6 (w:World) (b o:Nat) (x:ByteArray):Prop:=w.cell? ⟨b,o,none⟩=some (.string x)∧x.size≤10000
namespace fF
theorem SA:(Tryz.prog.info? 3).map (fun i=>(i.zero,i.size,i.bytes))=some (some (.int .i64 0),1,8):=by kernel_rfl
theorem RG:(Tryz.prog.info? 9).map (fun i=>(i.zero,i.size,i.bytes))=some (some (.string ⟨#[]⟩),1,16):=by kernel_rfl
theorem Il:(Tryz.prog.info? 70).map (fun i=>(i.zero,i.size,i.bytes))=some (some (.agg #[.string ⟨#[]⟩,.bool false,.int .i64 0,.int .i64 0]),4,40):=by kernel_rfl
theorem OX:(Tryz.prog.info? 68).map (fun i=>(i.zero,i.size,i.bytes))=some (some (.agg #[.string ⟨#[]⟩,.bool false,.slice none 0 0,.int .i64 0,.bool false,.int .i64 0]),6,72):=by kernel_rfl
theorem Io {w w':World} (hk:gh w w') {b o:Nat} {x:Int} (h:jc w b o x):jc w' b o x:=hk.2 _ _ h
theorem sU (x:Int) (u:Value) (w w':World) (_:gh w w') (h:Sz x u w):Sz x u w':=h
theorem vU (x:ByteArray) (u:Value) (w w':World) (_:gh w w') (h:Hh x u w):Hh x u w':=h
theorem pX (x:jw) (u:Value) (w w':World) (_:gh w w') (h:FA x u w):FA x u w':=h
theorem kY (x:aO) (u:Value) (w w':World) (hk:gh w w') (h:D8 x u w):D8 x u w':=by
 obtain⟨a,c,e,h1,h2⟩:=h;exact⟨a,c,e,h1.keeps hk fun _ _ _=>Io hk,h2⟩
theorem SC (w:World) (b o:Nat) (x:Int) (u:Value) (h:Sz x u w) (_:u.cells.size=1) (hc:∀ i,i<1→w.cell? ⟨b,o+i,none⟩=u.cells[i]?):jc w b o x:=by
 cases h
 exact hc 0 (by decide)
theorem Rx (w:World) (b o:Nat) (x:ByteArray) (u:Value) (h:Hh x u w) (_:u.cells.size=1) (hc:∀ i,i<1→w.cell? ⟨b,o+i,none⟩=u.cells[i]?):W6 w b o x:=by
 obtain⟨rfl,h1⟩:=h;exact⟨hc 0 (by decide),h1⟩
theorem small (n:Nat) (h:n≤10000):n≤maxLen:=by unfold maxLen;omega
theorem Rw (w:World) (b o:Nat) (x:jw) (u:Value) (h:FA x u w) (_:u.cells.size=4) (hc:∀ i,i<4→w.cell? ⟨b,o+i,none⟩=u.cells[i]?):og w b o x:=by
 obtain⟨rfl,h1⟩:=h;exact⟨hc 0 (by decide),hc 1 (by decide),hc 2 (by decide),hc 3 (by decide),small _ h1⟩
theorem Ox (w:World) (b o:Nat) (x:aO) (u:Value) (h:D8 x u w) (_:u.cells.size=6) (hc:∀ i,i<6→w.cell? ⟨b,o+i,none⟩=u.cells[i]?):jJ w b o x:=by
 obtain⟨a,c,rfl,h1,h2,h3,h4⟩:=h;exact⟨hc 0 (by decide),hc 1 (by decide),⟨a,c,hc 2 (by decide),h1,h2,h3⟩,hc 3 (by decide),hc 4 (by decide),hc 5 (by decide),small _ h4⟩
theorem sV {u u':World} {own:Option Nat} (hg:u.grownBy u' own):aB (fun i=>own=some i) u u':=
 ⟨hg.os,hg.tape,hg.output,hg.size,fun i hi hn=>hg.block i hi (by first|exact hn|exact fun e=>hn e.symm)⟩
theorem LI {α : Type} {k:Nat} {E:TypeId} {V:α→Value→World→Prop} {u w4:World} {B:Nat} {row:Value} {acc:List α} {x:α} {v:Value} {us:List Value} {o:Obj} {g c:Nat} (hV:∀ x u w w',gh w w'→V x u w→V x u w') (hu1:us.length=acc.length) (hu3:∀ j (h:j<acc.length) (h':j<us.length),V acc[j] us[j] (hide (cg B row) u)∧us[j].cells.size=k) (hx:V x v (hide (cg B row) u)) (hk:v.cells.size=k)
  (hown:w4.ownsRow B E k (.slice (some ⟨g,0,none⟩) (acc.length+1) c) (acc.length+1) (us.flatMap (fun u=>u.cells.toList)++v.cells.toList)) (hgrow:(u.alloc o).grownBy w4 row.ownBlock) (hat:row.ownBlock=some g∨g=u.heap.size+1) :
  Grow k E V B w4 (.slice (some ⟨g,0,none⟩) (acc.length+1) c) (acc ++ [x])∧aB (fun i=>row.ownBlock=some i) u w4:=by
 have hC:aB (fun i=>row.ownBlock=some i) u w4:=(((aB.refl (fun _=>False) u).alloc o).weak (fun _ _ h=>h.elim)).then (sV hgrow)
 refine⟨Grow.push hV hu1 hu3 hx hk hown hC.size (fun i hi hn=>hC.block i hi hn) (fun i hi=>?_),hC⟩
 have e:g=i:=by simpa [Value.ownBlock] using hi
 subst e;rcases hat with h|h
 ·exact .inl h
 ·exact .inr (by omega)
theorem je {α : Type} {k:Nat} {E:TypeId} {V:α→Value→World→Prop} {B:Nat} {w:World} {row:Value} {acc:List α} (h:Grow k E V B w row acc):∃ a c,row=.slice a acc.length c∧(acc.length≤c∧c≤maxLen):=by
 obtain⟨us,_,ho,_⟩:=h.ex;rcases ho.2 with ⟨rfl,h0⟩|⟨g,cap,cur,rfl,_,_,h1,h2,_⟩
 ·exact⟨_,_,by rw [h0],by rw [h0];exact⟨Nat.le_refl _,by decide⟩⟩
 ·exact⟨_,_,rfl,h1,h2⟩
theorem bG {α : Type} {k:Nat} {E:TypeId} {V:α→Value→World→Prop} {B:Nat} {w:World} {row:Value} {acc:List α} (h:Grow k E V B w row acc):∀ i,row.ownBlock=some i→B≤i∧i<w.heap.size:=by
 obtain⟨us,_,ho,_⟩:=h.ex;exact fun i e=>World.ownsRow.lt ho i e
end fF
end Go.Proofs.YtpcihajmcejliacGreatDoor
namespace Go.Proofs.YtpcihajmcejliacGreatDoor
open Go.RowKit
structure lV {α : Type} (X:Nat→Bool) (k:Nat) (E:TypeId) (V:α→Value→World→Prop) (B:Nat) (w:World) (v:Value) (l:List α):Prop where
 ex:∃ us:List Value,us.length=l.length∧w.ownsRow B E k v l.length (us.flatMap fun u=>u.cells.toList)∧∀ j (h:j<l.length) (h':j<us.length),V l[j] us[j] (hide (fun i=>cg B v i || X i) w)∧us[j].cells.size=k
namespace fF
theorem yO {α : Type} (X:Nat→Bool) (k:Nat) (E:TypeId) (V:α→Value→World→Prop) (B:Nat) (w:World):lV X k E V B w (.slice none 0 0) []:=
 ⟨[],rfl,World.ownsRow_nil _ _ _ _,fun j h=>by simp at h⟩
theorem qK {α : Type} {X:Nat→Bool} {k:Nat} {E:TypeId} {V:α→Value→World→Prop} {B:Nat} {w:World} {row:Value} {acc:List α} (h:lV X k E V B w row acc):∃ a c,row=.slice a acc.length c∧(acc.length≤c∧c≤maxLen):=by
 obtain⟨us,_,ho,_⟩:=h.ex;rcases ho.2 with ⟨rfl,h0⟩|⟨g,cap,cur,rfl,_,_,h1,h2,_⟩
 ·exact⟨_,_,by rw [h0],by rw [h0];exact⟨Nat.le_refl _,by decide⟩⟩
 ·exact⟨_,_,rfl,h1,h2⟩
theorem dm {α : Type} {X:Nat→Bool} {k:Nat} {E:TypeId} {V:α→Value→World→Prop} {B:Nat} {w:World} {row:Value} {acc:List α} (h:lV X k E V B w row acc):∀ i,row.ownBlock=some i→B≤i∧i<w.heap.size:=by
 obtain⟨us,_,ho,_⟩:=h.ex;exact fun i e=>World.ownsRow.lt ho i e
theorem gZ {α : Type} {X X':Nat→Bool} {k:Nat} {E:TypeId} {V:α→Value→World→Prop} {B:Nat} {w w':World} {row:Value} {acc:List α} (h:lV X k E V B w row acc) (hV:∀ x u w w',gh w w'→V x u w→V x u w') {S:Nat→Prop} (hC:aB S w w')
  (hS:∀ i,S i→i<B∨X i=true) (hO:∀ i,row.ownBlock=some i→¬ S i) (hX:∀ i,X' i=true→X i=true∨w.heap.size≤i):lV X' k E V B w' row acc:=by
 obtain⟨us,h1,⟨h2,h4⟩,h3⟩:=h.ex;refine⟨us,h1,⟨h2,?_⟩,fun j hj hj'=>⟨hV _ _ _ _ (bJ hC.size fun i hi hm=>?_) (h3 j hj hj').1,(h3 j hj hj').2⟩⟩
 ·rcases h4 with h4|⟨g,cap,cur,hv,hg,hh,r⟩
  ·exact .inl h4
  ·refine .inr ⟨g,cap,cur,hv,hg,?_,r⟩
   rw [hC.block g (Array.getElem?_eq_some_iff.1 hh).1 (hO g (by rw [hv];rfl))];exact hh
 ·simp only [Bool.or_eq_false_iff,cg,decide_eq_false_iff_not] at hm ⊢
  have h5:X' i=false:=by
   cases hx:X' i with
   | false=>rfl
   | true=>
    rcases hX i hx with h|h
    ·rw [h] at hm;cases hm.2
    ·omega
  refine⟨⟨⟨hm.1.1,hm.1.2⟩,h5⟩,hC.block i hi fun hs=>?_⟩
  rcases hS i hs with h|h
  ·exact hm.1.1 h
  ·rw [h] at hm;cases hm.2
theorem yR {α : Type} {X:Nat→Bool} {k:Nat} {E:TypeId} {V:α→Value→World→Prop} {In:World→Nat→Nat→α→Prop} {B:Nat} {w:World} {v:Value} {l:List α} (h:lV X k E V B w v l)
  (hV:∀ x u w w',gh w w'→V x u w→V x u w')
  (hI:∀ (w:World) b o x u,V x u w→u.cells.size=k→(∀ i,i<k→w.cell? ⟨b,o+i,none⟩=u.cells[i]?)→In w b o x):Rk k In l v (hide (below B) w):=by
 obtain⟨us,h1,h2,h3⟩:=h.ex;refine Grow.row (E:=E) ⟨us,h1,h2,fun j hj hj'=>⟨hV _ _ _ _ (bJ (Nat.le_refl _) fun i hi hm=>?_) (h3 j hj hj').1,(h3 j hj hj').2⟩⟩ hV hI
 simp only [Bool.or_eq_false_iff] at hm;exact⟨hm.1,rfl⟩
theorem Ip {X:Nat→Bool} {A B:Nat} {row:Value} {w:World} (hB:B≤A) (hr:∀ i,row.ownBlock=some i→i<A) (hX:∀ i,X i=true→i<A):gh (hide (below A) w) (hide (fun i=>cg B row i || X i) w):=bJ (Nat.le_refl _) fun i hi hm=>by
 simp only [below,decide_eq_false_iff_not] at hm;refine⟨?_,rfl⟩
 simp only [Bool.or_eq_false_iff,cg,decide_eq_false_iff_not];refine⟨⟨by omega,fun e=>hm (hr i e)⟩,?_⟩
 cases hx:X i with
 | false=>rfl
 | true=>exact absurd (hX i hx) hm
def ownB (v:Value):Nat→Bool:=fun i=>decide (v.ownBlock=some i)
end fF
end Go.Proofs.YtpcihajmcejliacGreatDoor
namespace Go.Proofs.YtpcihajmcejliacGreatDoor
open Go.RowKit
def ag2 (all:Bool) (l:List Nd):List jw:=(iy l).filter fun v=>all || v.pub
def ag3 (all:Bool) (l:List Nd):List aO:=(bh l).filter fun p=>all || p.pub
def RE (all:Bool) (x:Nd):bf:=⟨x.tx,ag2 all x.kids,ag3 all x.kids⟩
def kC:bf:=⟨⟨#[]⟩,[],[]⟩
def zF (s:ByteArray):bf×List ByteArray×Int×Int:=
 if (aZ s).2.1=0 then
  (if (jM (aZ s).1.tx (aZ s).1.kids [] [] 1).1=0 then (RE false (aZ s).1,iC (aZ s).1.kids,0,0)
  else (kC,[],(jM (aZ s).1.tx (aZ s).1.kids [] [] 1).1,((jM (aZ s).1.tx (aZ s).1.kids [] [] 1).2:Nat)))
 else (kC,[],(aZ s).2.1,(aZ s).2.2)
namespace ofd
open fF
theorem look_ok (m:ByteArray):∀ (l:List Nd) (I L:List (List UInt8)) (p:Nat),(jM m l I L p).1=0→(jM m l I L p).2=0:=by
 intro l;induction l with
 | nil=>intro I L p _;rfl
 | cons x r ih=>
  intro I L p h;simp only [jM] at h ⊢;split
  ·rename_i h1
   rw [if_pos h1] at h;split
   ·rename_i h2;rw [if_pos h2] at h;exact absurd (show (5:Int)=0 from h) (by decide)
   ·rename_i h2
    rw [if_neg h2] at h;split
    ·rename_i h3;rw [if_pos h3] at h;exact absurd (show (5:Int)=0 from h) (by decide)
    ·rename_i h3
     rw [if_neg h3] at h;split
     ·rename_i h4;rw [if_pos h4] at h;exact absurd (show (1:Int)=0 from h) (by decide)
     ·rename_i h4;rw [if_neg h4] at h;exact ih _ _ _ h
  ·rename_i h1
   rw [if_neg h1] at h;split
   ·rename_i h2;rw [if_pos h2] at h;exact absurd (show (5:Int)=0 from h) (by decide)
   ·rename_i h2
    rw [if_neg h2] at h;split
    ·rename_i h3;rw [if_pos h3] at h;exact absurd (show (1:Int)=0 from h) (by decide)
    ·rename_i h3
     rw [if_neg h3] at h;split
     ·rename_i h4;rw [if_pos h4] at h;exact ih _ _ _ h
     ·rename_i h4;rw [if_neg h4] at h;exact absurd h h4
theorem FB:∀ (f:Nat) (l:List UInt8) (p:Nat) (acc:List Tok),(iw f l p acc).2.1=0→(iw f l p acc).2.2=0:=by
 intro f;induction f with
 | zero=>intro l p acc _;rfl
 | succ f ih=>
  intro l p acc h;simp only [iw] at h ⊢;split
  ·rename_i h1
   rw [if_pos h1] at h;split
   ·rename_i h2
    rw [if_pos h2] at h;exact ih _ _ _ h
   ·rename_i h2
    rw [if_neg h2] at h;exact absurd h h2
  ·rfl
theorem OY {l:List UInt8} (h:(jY l).2.1=0):(jY l).2.2=0:=by
 unfold jY at h ⊢;split
 ·rename_i h1
  rw [if_pos h1] at h
 ·rename_i h1
  rw [if_neg h1] at h;exact FB _ _ _ _ h
theorem Ry (s:ByteArray) (h:(aZ s).2.1=0):(∀ y∈(aZ s).1.kids,vu y)∧dL (aZ s).1≤500∧(aZ s).2.2=0:=by
 unfold aZ at h ⊢;obtain⟨T,hT⟩:∃ T,jY s.data.toList=T:=⟨_,rfl⟩;have hz:=OY (l:=s.data.toList);rw [hT] at h hz ⊢;obtain⟨ts,c,a⟩:=T;simp only at h ⊢;by_cases hc:c=0
 ·subst hc
  obtain⟨-,hok,-⟩:=Sl.BM s ts a hT;rw [if_pos rfl] at h ⊢;cases hp:bn (20*ts.length+5) .module (n_ s ts) with
  | out=>rw [hp] at h;exact⟨fun y hy=>(by cases hy),(by decide:dL kE≤500),rfl⟩
  | bad l=>rw [hp] at h;exact absurd (show (2:Int)=0 from h) (by decide)
  | got x r=>
   rw [hp] at h;simp only at h ⊢;by_cases hw:(d_ 16 x 0).1=true
   ·rw [if_pos hw] at h ⊢
    obtain⟨m,kids,rfl,hk⟩:=ofm.OZ _ _ _ _ hok hp;have h2:=((vY 16 _ 0 (by omega)).1.1 hw).2;exact⟨hk,by show dL (Nd.mk 1 m 0 kids)≤500;omega,by have:a=0:=hz rfl;subst this;rfl⟩
   ·rw [if_neg hw] at h
    exact absurd (show (1:Int)=0 from h) (by decide)
 ·rw [if_neg hc] at h
  exact absurd h hc
end ofd
end Go.Proofs.YtpcihajmcejliacGreatDoor
