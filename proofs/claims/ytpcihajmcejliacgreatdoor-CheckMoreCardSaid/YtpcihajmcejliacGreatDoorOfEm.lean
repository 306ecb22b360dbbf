/- The walk of the program's declare: a declaration is taken in, or what is wrong is thrown. -/
import Derived.Test.YtpcihajmcejliacGreatDoorOfSm
namespace Go.Proofs.YtpcihajmcejliacGreatDoor
open Go.RowKit
def oZ (L:List (ByteArray×Int)) (x:Nd) (p:Nat):Int×Nat:=if (eU L).contains x.key=true then (5,p) else if 20≤L.length then (1,p) else qA x p
namespace N8
open bn dn oV
def BL (D Mn:Nat) (rv rp:Value):Nat→Prop:=fun i=>i=D∨i=Mn∨rv.ownBlock=some i∨rp.ownBlock=some i
def BM (w0 w:World) (D Mn Ma B:Nat) (m:ByteArray) (n0 n1 n2 n3 ri rvo rpo:Value) (vs:List fB) (ps:List aI) (is:List ByteArray) (L A:List (ByteArray×Int)) (x:Nd) (p:Nat) (FX:Int×Nat) (e:Ending) (u:World):Prop:=
 (FX.1=0→e=.returned (.tuple #[])∧∃ rv rp,DS w0 u D Mn Ma B m n0 n1 n2 n3 rv rp ri rv rp ri (if isVar x=true then vs ++ [varOf x] else vs) (if isVar x=true then ps else ps ++ [qI x]) is (L ++ [(x.tx,(p:Int))]) A∧aB (BL D Mn rvo rpo) w u)∧
 (FX.1≠0→e=.panicked (ve FX.1 (FX.2:Nat))∧Ext w0 u)
structure PL (w5 u:World) (Pb Ob B2:Nat) (t:ByteArray) (b1:Bool) (m2:Int) (b4:Bool) (m8:Int) (jI row:Value) (acc:List Int) (own:List (ByteArray×Int)):Prop where
 ext:Ext w5 u
 pv:aH u Pb #[.string t,.bool b1,jI,.int .i64 m2,.bool b4,.int .i64 m8] 68
 om:kD u Ob own
 grow:Grow 1 3 JE B2 u row acc
 h5:w5.heap.size≤Pb
 Qw:Pb<Ob
 Oh:Ob<B2
 hu:B2≤u.heap.size
theorem PL.extend {w5 u u':World} {Pb Ob B2:Nat} {t:ByteArray} {b1:Bool} {m2:Int} {b4:Bool} {m8:Int} {jI row:Value} {acc:List Int} {own:List (ByteArray×Int)} (h:PL w5 u Pb Ob B2 t b1 m2 b4 m8 jI row acc own) (hE:Ext u u'):PL w5 u' Pb Ob B2 t b1 m2 b4 m8 jI row acc own:=
 ⟨h.ext.ext hE,h.pv.ext hE,h.om.aO hE id,h.grow.aO nR hE (fun _ e=>e.elim),h.h5,h.Qw,h.Oh,Nat.le_trans h.hu hE.size⟩
theorem PL.name {w5 u u':World} {Pb Ob B2:Nat} {t:ByteArray} {b1:Bool} {m2:Int} {b4:Bool} {m8:Int} {jI row:Value} {acc:List Int} {own Vm:List (ByteArray×Int)} (h:PL w5 u Pb Ob B2 t b1 m2 b4 m8 jI row acc own) (hg:u.grownBy u' (some Ob)) (hm:kD u' Ob Vm):PL w5 u' Pb Ob B2 t b1 m2 b4 m8 jI row acc Vm:=by
 have hC:=iF hg;have h1:=h.h5;have h2:=h.Qw;have h3:=h.Oh
 exact⟨h.ext.trans hC (fun i hi e=>by omega),h.pv.aO hC (by omega),hm,h.grow.aO nR hC (fun i e=>by omega),h1,h2,h3,Nat.le_trans h.hu hC.size⟩
theorem PL.more {w5 u u':World} {Pb Ob B2:Nat} {t:ByteArray} {b1:Bool} {m2:Int} {b4:Bool} {m8:Int} {jI row r:Value} {acc Vo:List Int} {own:List (ByteArray×Int)} (h:PL w5 u Pb Ob B2 t b1 m2 b4 m8 jI row acc own) (hG:Grow 1 3 JE B2 u' r Vo) (hC:aB (fun i=>row.ownBlock=some i) u u'):PL w5 u' Pb Ob B2 t b1 m2 b4 m8 jI r Vo own:=by
 have h1:=h.h5;have h2:=h.Qw;have h3:=h.Oh
 have ho:=bh h.grow;exact⟨h.ext.trans hC (fun i hi e=>by have:=ho i e;omega),h.pv.aO hC (fun e=>by have:=ho _ e;omega),h.om.aO hC (fun e=>by have:=ho _ e;omega),hG,h1,h2,h3,Nat.le_trans h.hu hC.size⟩
theorem PL.put {w5 u:World} {Pb Ob B2:Nat} {t:ByteArray} {b1:Bool} {m2:Int} {b4:Bool} {m8:Int} {jI row:Value} {acc:List Int} {own:List (ByteArray×Int)} (h:PL w5 u Pb Ob B2 t b1 m2 b4 m8 jI row acc own):PL w5 (u.setCell ⟨Pb,2,none⟩ row) Pb Ob B2 t b1 m2 b4 m8 row row acc own:=by
 have h1:=h.h5;have h2:=h.Qw;have h3:=h.Oh
 have hC:=ak (S:=Pb) (aB.refl _ u) 2 row;exact⟨h.ext.trans hC (fun i hi e=>by omega),by have:=h.pv.set 2 row;exact this,h.om.aO hC (by omega),h.grow.aO nR hC (fun i e=>by omega),h1,h2,h3,Nat.le_trans h.hu hC.size⟩
theorem dies {w0 w u:World} {D Mn Ma B:Nat} {m:ByteArray} {n0 n1 n2 n3 ri rvo rpo:Value} {vs:List fB} {ps:List aI} {is:List ByteArray} {L A:List (ByteArray×Int)} {x:Nd} {p q:Nat} {c:Int} {FX:Int×Nat} (hF:FX=(c,q)) (hc:c≠0) (hE:Ext w0 u):BM w0 w D Mn Ma B m n0 n1 n2 n3 ri rvo rpo vs ps is L A x p FX (.panicked (ve c (q:Nat))) u:=by
 subst hF;exact⟨fun h=>absurd h hc,fun _=>⟨rfl,hE⟩⟩
theorem MC {ps0:List Nd} {PR:List Int} (h:ps0.map Nd.nm=PR) {j:Nat} (hj:j<ps0.length):PR.take (j+1)=PR.take j ++ [(ps0[j]).nm]:=by
 subst h;rw [List.take_succ_eq_append_getElem (by simpa using hj)];simp
theorem JH {m:Int} (h0:0≤m) (h1:m≤11):bits .and .i64 m 2=if 2≤m % 4 then 2 else 0:=by
 have:m=0∨m=1∨m=2∨m=3∨m=4∨m=5∨m=6∨m=7∨m=8∨m=9∨m=10∨m=11:=by omega
 rcases this with rfl|rfl|rfl|rfl|rfl|rfl|rfl|rfl|rfl|rfl|rfl|rfl<;>decide
theorem JI {m:Int} (h0:0≤m) (h1:m≤11):bits .and .i64 m 1=m % 2:=by
 have:m=0∨m=1∨m=2∨m=3∨m=4∨m=5∨m=6∨m=7∨m=8∨m=9∨m=10∨m=11:=by omega
 rcases this with rfl|rfl|rfl|rfl|rfl|rfl|rfl|rfl|rfl|rfl|rfl|rfl<;>decide
set_option maxRecDepth 100000 in
set_option maxHeartbeats 8000000 in
theorem AQ {w0 w:World} {D Mn Ma B:Nat} {m:ByteArray} {n0 n1 n2 n3 rv rp ri:Value} {vs:List fB} {ps:List aI} {is:List ByteArray} {L A:List (ByteArray×Int)} {x:Nd} {v:Value} {H:Nat→Bool} (p:Nat)
  (h:DS w0 w D Mn Ma B m n0 n1 n2 n3 rv rp ri rv rp ri vs ps is L A) (hx:fE (hide H w0) x v) (hok:I8 x∨vK x) (hkl:x.kids.length≤1000) (hp:p≤1000) (hL:L.length≤20) (hvs:vs.length≤1000) (hps:ps.length≤1000) :
  Calls Tryz.prog 113 #[.pointer (some ⟨D,0,none⟩),v,.int .i64 (p:Nat),.map (some Mn)] w (BM w0 w D Mn Ma B m n0 n1 n2 n3 ri rv rp vs ps is L A x p (oZ L x p)):=by
 obtain⟨k,t,mm,l⟩:=x;rw [cG] at hx;obtain⟨a,cc,rfl,hx1,hx2,hx3,JD⟩:=hx;have hmm:0≤mm∧mm≤11:=by rcases hok with h|h;exact⟨h.nm.1,by have h2:mm≤3:=h.nm.2;omega⟩;exact h.nm
 have hkl2:l.length≤1000:=hkl;obtain⟨N,hN⟩:∃ N,l.length=N:=⟨_,rfl⟩;rw [hN] at hx1 hkl2 ⊢;have HN:=Z_ hN;have HI:=Z_ (fun (u:World) (hE:Ext w0 u)=>JD.keeps (aC hE fun i _ e=>e.elim) fun b o y=>fL (aC hE fun i _ e=>e.elim) b o y);have HB2:=Z_ (JH hmm.1 hmm.2);have XS:=Z_ (JI hmm.1 hmm.2);have Ko:=Z_ hok;have hX:=(aB.refl (fun _=>False) w).alloc (.cells #[.int .i64 k,.string t,.int .i64 mm,.slice a N cc] 24);have HD:=Z_ (h.extend hX);have HC:=Z_ (hX.weak (S':=BL D Mn rv rp) fun _ _ e=>e.elim);have HK:=Z_ (aH.made w #[.int .i64 k,.string t,.int .i64 mm,.slice a N cc] 24);obtain⟨K,hK⟩:∃ K,w.heap.size=K:=⟨_,rfl⟩;have hBK:B≤K:=by have:=h.hu;omega
 rw [hK] at HK;obtain⟨FX,RR⟩:∃ q,oZ L (.mk k t mm l) p=q:=⟨_,rfl⟩;rw [RR];have HF:=Z_ RR;obtain⟨x,hxe⟩:∃ x:Nd,Nd.mk k t mm l=x:=⟨_,rfl⟩;have zL:=Z_ hxe;rw [hxe];have MG:=Z_ (vH L t);clear JD hN hok hX h RR hxe hkl;obtain⟨G6,his⟩:∃ b,(jW L t).isSome=b:=⟨_,rfl⟩;have HIS:=Z_ his;go_enter Tryz.func113,Tryz.ntmps113
 go_upto_region 1 with (fail)
 generalize w.alloc (.cells #[.int .i64 k,.string t,.int .i64 mm,.slice a N cc] 24)=w1 at *;have hc:=HK.out.cell;have hlook:=HD.out.nm.look (s:=t) (by unfold maxLen;omega);rw [his] at hlook;generalize (jW L t).getD 0=c0 at *;cases G6 with
 | true=>
  have HT:=Z_ (show FX=(5,p) by rw [←HF.out];unfold oZ;rw [if_pos (show (eU L).contains (Nd.mk k t mm l).key=true from MG.out.symm.trans HIS.out)]);go_wp2_with fail
  refine(eY 5 (p:Nat) _).mono ?_
  rintro e w2 ⟨rfl,rfl⟩;go_wp2_with fail
  refine⟨rfl,?_⟩
  exact dies HT.out (by decide) HD.out.ext
 | false=>
  have hlen:=HD.out.nm.len;by_cases h20:20≤L.length
  ·have HT:=Z_ (show FX=(1,p) by rw [←HF.out];unfold oZ;rw [if_neg (show ¬ (eU L).contains (Nd.mk k t mm l).key=true by rw [show (eU L).contains (Nd.mk k t mm l).key=false from MG.out.symm.trans HIS.out];exact Bool.false_ne_true),if_pos h20])
   have Oe:¬ (L.length:Int)<20:=by omega
   have X4:decide ((L.length:Int)<20)=false:=by simpa using Oe
   have h2e:decide (L.length<20)=false:=by simp;omega
   go_wp2_with fail
   refine(dK 5 (p:Nat) _).mono ?_
   rintro e w2 ⟨rfl,rfl⟩;go_wp2_with fail
   refine(eY 1 (p:Nat) _).mono ?_
   rintro e w2 ⟨rfl,rfl⟩;go_wp2_with fail
   refine⟨rfl,?_⟩
   exact dies HT.out (by decide) HD.out.ext
  ·have HT:=Z_ (show FX=qA x p by rw [←HF.out,←zL.out];unfold oZ;rw [if_neg (show ¬ (eU L).contains (Nd.mk k t mm l).key=true by rw [show (eU L).contains (Nd.mk k t mm l).key=false from MG.out.symm.trans HIS.out];exact Bool.false_ne_true),if_neg h20])
   have Oe:(L.length:Int)<20:=by omega
   have X4:decide ((L.length:Int)<20)=true:=by simpa using Oe
   have h2e:decide (L.length<20)=true:=by simp;omega
   have hnone:jW L t=none:=by cases hq:jW L t with
    | none=>rfl
    | some c=>have:=HIS.out;rw [hq] at this;cases this
   obtain⟨w2,hput,hM2,hg2⟩:=HD.out.nm.put (v:=(p:Nat)) hnone (by unfold maxLen;omega:t.size≤maxLen) (by unfold maxLen;omega) (by omega) (by omega);have rZ:=Z_ (HD.out.name hg2 hM2);have Ej:=Z_ (HK.out.aO (iF hg2) (by have:=HD.out.Ly;omega));have HC2:=Z_ (HC.out.trans (iF hg2) (fun i _ e=>.inr (.inl e)));clear hnone hM2 hg2 HF MG HIS HD HK HC;go_wp2_with fail
   refine(dK 5 (p:Nat) _).mono ?_
   rintro e w3 ⟨rfl,rfl⟩;go_wp2_with fail
   refine(dK 1 (p:Nat) _).mono ?_
   rintro e w3 ⟨rfl,rfl⟩;go_upto_region 5 with (fail)
   obtain⟨z2,hz2⟩:∃ z,bits .and .i64 mm 2=z:=⟨_,rfl⟩;obtain⟨m2,hm2⟩:∃ z,mm % 2=z:=⟨_,rfl⟩;obtain⟨b1,hb1⟩:∃ b,decide (2≤mm % 4)=b:=⟨_,rfl⟩
   have hzb:(z2 != 0)=b1:=by
    rw [←hb1,←hz2,HB2.out];by_cases h4:2≤mm % 4
    ·rw [if_pos h4,decide_eq_true h4];rfl
    ·rw [if_neg h4,decide_eq_false h4];rfl
   have hz1:=XS.out;rw [hm2] at hz1;have HM:=Z_ (And.intro hb1 hm2);clear hlook hlen hput hc Oe X4 h2e hb1 hm2 his;have hk:=Ej.out.cell;go_quiet (fail)
   replace rZ:=Z_ (rZ.out.extend ((aB.refl _ _).drewN nq));replace Ej:=Z_ (Ej.out.ext ((aB.refl _ _).drewN nq));replace HC2:=Z_ (HC2.out.drewN nq);generalize w2.drewN nq=w4 at *;clear hk hz2 hz1 hzb;have hk:=Ej.out.cell;rcases Ko.out with hv|hv
   ·have hk3:k=3:=hv.kd
    subst hk3;have hkk:l=[]∨∃ y,l=[y]∧0≤y.nm∧y.nm<9223372036854775808:=hv.kids;have hiv:isVar x=true:=by rw [←zL.out];simp [isVar,Nd.kd]
    have Qx:=Z_ hiv;clear hv Ko hiv;go_upto_region 8 with (fail)
    have Sj:=Z_ (aH.made w4 #[.string t,.bool b1,.int .i64 m2,.int .i64 0] 70);have zf:=Z_ ((aB.refl (fun _=>False) w4).alloc (.cells #[.string t,.bool b1,.int .i64 m2,.int .i64 0] 70));have hK4:=Ej.out.lt;have HRV:=Z_ (fun i e=>(bh rZ.out.rows.gv i e).2);have Vp:=Z_ rZ.out.hu;have HD4:=rZ;have Ri:=HC2;replace HC2:=Z_ (HC2.out.ext zf.out);replace rZ:=Z_ (rZ.out.extend zf.out);replace Ej:=Z_ (Ej.out.ext zf.out);have Sl:=Z_ (Nat.le_refl w4.heap.size);obtain⟨Vb,xC⟩:∃ Vb,w4.heap.size=Vb:=⟨_,rfl⟩;rw [xC] at Sj hK4 HRV Vp;replace Sl:Hid (w4.heap.size=Vb):=Z_ xC
    try rw [xC]
    clear hk;generalize w4.alloc (.cells #[.string t,.bool b1,.int .i64 m2,.int .i64 0] 70)=w5 at *;clear xC;have hk:=Ej.out.cell;have Tz:rv.ownBlock≠some Vb:=fun e=>by have:=HRV.out Vb e;omega
    obtain⟨ra,rc,hrow,-,-⟩:=dV rZ.out.rows.gv;subst hrow;rcases hkk with rfl|⟨y,rfl,hy0,hy1⟩
    ·obtain rfl:N=0:=by simpa using HN.out.symm
     have kS:=Z_ (show FX=(0,0) by rw [HT.out,←zL.out];rfl);have Vq:varOf x=⟨t,b1,m2,0⟩:=by rw [←zL.out];show fB.mk t (decide (2≤mm % 4)) (mm % 2) 0=_;rw [HM.out.1,HM.out.2]
     have HVO:=Z_ Vq;clear Vq;go_upto_region 12 with (fail)
     clear hk;have Vr:=Sj;refine ah [7,8,12] (fun i v _=>v=([.pointer (some ⟨D,0,none⟩),.pointer (some ⟨D,0,none⟩),.pointer (some ⟨D,0,none⟩),.pointer (some ⟨D,0,none⟩),.pointer (some ⟨D,1,none⟩),.slice ra vs.length rc,.agg #[.string t,.bool b1,.int .i64 m2,.int .i64 0],undef,undef,.pointer (some ⟨D,0,none⟩),.pointer (some ⟨D,0,none⟩),.pointer (some ⟨D,1,none⟩),undef]:List Value).getD i undef) (dn.eu (fun u rN r l=>DS w0 u D Mn Ma B m n0 n1 n2 n3 rN rp ri r rp ri l ps is (L ++ [(t,(p:Int))]) A∧aH u Vb #[.string t,.bool b1,.int .i64 m2,.int .i64 0] 70∧aB (BL D Mn (.slice ra vs.length rc) rp) w u) (fun _=>false) wF (B) 70 (.slice ra vs.length rc) vs ⟨t,b1,m2,0⟩ (.agg #[.string t,.bool b1,.int .i64 m2,.int .i64 0])) (fun _ _=>True) (frame:=?YU) (fun x=>?PD) bn.mixed (by kernel_rfl) (by kernel_rfl) (fun _ _ _ _ h _=>h) ?YV ?YW ?PE
     case PD=>
      simp only [chain.aK,chain.fill,chain.bf,chain.aW,jJ,jK,jL,jM,jO,jP,jQ,jR,jS];exact rfl
     case YV=>exact⟨⟨rZ.out.extend (aB.refl _ _).drew,Vr.out.ext (aB.refl _ _).drew,HC2.out.drew⟩,rfl,hx3⟩
     case YW=>
      iterate 13 (refine ai.cons (fun x vs u hF hm hb hd K' hK'=>?_) ?_;rotate_left)
      exact ai.nil
      ·have HF:=Z_ hF;clear hd hm hb hF;go_simp;exact hK'.out _ _ _ (rfl) trivial ⟨rfl,HF.out⟩
      ·have HF:=Z_ hF;clear hd hm hb hF;go_simp;exact hK'.out _ _ _ (rfl) trivial ⟨rfl,HF.out⟩
      ·have y0:x 76=.pointer (some ⟨D,0,none⟩):=(D_ hd 1 :);have HF:=Z_ hF;clear hd hm hb hF;go_simp;exact hK'.out _ _ _ (by simp only [y0];rfl) trivial ⟨rfl,HF.out⟩
      ·have y0:x 77=.pointer (some ⟨D,0,none⟩):=(D_ hd 2 :);have HF:=Z_ hF;clear hd hm hb hF;go_simp;exact hK'.out _ _ _ (by simp only [y0];rfl) trivial ⟨rfl,HF.out⟩
      ·have y0:x 78=.pointer (some ⟨D,0,none⟩):=(D_ hd 3 :);have HF:=Z_ hF;clear hd hm hb hF;go_simp;exact hK'.out _ _ _ (by simp only [y0];rfl) trivial ⟨rfl,HF.out⟩
      ·have hc:=(dn.eu.B hF (by have:=hb 1 _ (by decide) rfl (by kernel_rfl);omega)).1.d.cell;have y0:x 79=.pointer (some ⟨D,1,none⟩):=(D_ hd 4 :);have HF:=Z_ hF;clear hd hm hb hF;go_simp;exact hK'.out _ _ _ (by simp only [y0];rfl) trivial ⟨rfl,HF.out⟩
      ·have hc:=(dn.eu.B hF (by have:=hb 0 _ (by decide) rfl (by kernel_rfl);omega)).2.1.cell;have HF:=Z_ hF;clear hd hm hb hF;go_simp;exact hK'.out _ _ _ (rfl) trivial ⟨rfl,HF.out⟩
      ·obtain rfl:=kF hm;have y0:x 81=.agg #[.string t,.bool b1,.int .i64 m2,.int .i64 0]:=(D_ hd 6 :);have aP:=hF.1;have HG:=Z_ (dn.bH (mM aP.1.rows.gv kO (fun _=>false)));have HF:=Z_ hF;clear hd hm hb hF aP;go_simp;exact hK'.out _ _ _ (by simp only [y0];rfl) trivial (dn.fF dn.gK (fun u' hE=>⟨HF.out.1.1.extend hE,HF.out.1.2.1.ext hE,HF.out.1.2.2.ext hE⟩) (fun i e=>(HG.out i e).2) HF.out rfl)
      ·obtain⟨v0,rfl⟩:=lK hm
       have y0:x 80=.slice ra vs.length rc:=(D_ hd 5 :);have y1:x 82=v0:=((D_ hd 7) 82 (by kernel_rfl) :);have hF2:=hF;obtain⟨aP,hxx,gg,rfl,hgb,hgr⟩:=hF2;obtain⟨us,hu1,ho,hu3⟩:=(mM aP.1.rows.gv kO (fun _=>false)).ex;obtain⟨jc,jd,hz0,hz1,hz2⟩:=bn.aX dn.wG;have hbz:B≤u.heap.size:=by exact aP.1.hu
       refine wp_append_lies _ _ _ 34 rfl (B) 70 jc (.agg #[.string ⟨#[]⟩,.bool false,.int .i64 0,.int .i64 0]) 4 40 Tryz.underlying34 jd hz0 hz1 hz2 rfl (by decide) (.slice ra vs.length rc) vs.length (us.flatMap fun u=>u.cells.toList) y0 ho ⟨gg,0,none⟩ 1 1 [.string t,.bool b1,.int .i64 m2,.int .i64 0] y1 rfl ?_ (by intro z_ kW;simp only [List.mem_cons,List.not_mem_nil,or_false] at kW;rcases kW with rfl|rfl|rfl|rfl<;>rfl) (by decide) (by unfold maxLen;omega) (by omega) hbz u.heap.size rfl ?_
       ·intro j q hj;have e:(⟨gg,0,none⟩:Addr).add j=⟨gg,j,none⟩:=(by unfold Addr.add;split<;>simp_all);rw [e,hgb.cell];simpa [Value.cells] using hj
       ·intro g9 c9 w9 iQ iJ jU qF
        exact hK'.out _ _ _ rfl trivial (dn.eF dn.gK hF hu1 hu3 rfl (fun r sD hG hC ha=>⟨aP.1.turn hC (fun i e=>(bh aP.1.rows.gv i e).1) (aP.1.rows.ED (yX hG kO) hC ha),aP.2.1.aO hC Tz,aP.2.2.trans hC (fun i _ e=>.inr (.inr (.inl e)))⟩) iQ iJ jU)
      ·have y0:x 75=.pointer (some ⟨D,0,none⟩):=(D_ hd 0 :);have HF:=Z_ hF;clear hd hm hb hF;go_simp;exact hK'.out _ _ _ (by simp only [y0];rfl) trivial ⟨rfl,HF.out⟩
      ·have y0:x 84=.pointer (some ⟨D,0,none⟩):=(D_ hd 9 :);have HF:=Z_ hF;clear hd hm hb hF;go_simp;exact hK'.out _ _ _ (by simp only [y0];rfl) trivial ⟨rfl,HF.out⟩
      ·have y0:x 85=.pointer (some ⟨D,0,none⟩):=(D_ hd 10 :);have HF:=Z_ hF;clear hd hm hb hF;go_simp;exact hK'.out _ _ _ (by simp only [y0];rfl) trivial ⟨rfl,HF.out⟩
      ·obtain⟨v0,v1,rfl⟩:=qX hm
       have y0:x 86=.pointer (some ⟨D,1,none⟩):=(D_ hd 11 :);have y1:x 83=v1:=((D_ hd 8) 83 (by kernel_rfl) :);have hF2:=hF;obtain⟨aP,gg,cc,rfl⟩:=hF2;have hc:=aP.1.d.cell 1;have hf:=aP.1.d.frozen 1;have hl:=aP.1.d.lt;simp at hc
       have HF:=Z_ hF;clear hd hm hb hF aP;go_simp;exact hK'.out _ _ undef (by simp only [y0,y1];rfl) trivial (dn.fG (z:=undef) HF.out (fun h=>⟨h.1.MH,h.2.1.setOther (p:=⟨D,1,none⟩) (by have:=h.1.FN;have:=Vp.out;show Vb≠D;omega) _,h.2.2.setCell (fun _=>.inl rfl) _⟩))
     case PE=>
      intro x9 qj w9 hl hF hk9;obtain⟨v0,v1,v2,rfl⟩:=KR hl
      clear hk9 hl;have N7:=Z_ (show DS _ _ _ _ _ _ _ _ _ _ _ _ _ _ _ _ _ _ _ _ _ _ from hF.1);have Pm:=Z_ (show aB _ _ _ from hF.2.2);clear hF;go_wp2_with fail
      go_end0
      exact⟨fun _=>⟨rfl,_,_,by rw [if_pos Qx.out,if_pos Qx.out,HVO.out,show x.tx=t by rw [←zL.out];rfl];exact N7.out,Pm.out⟩,fun h=>absurd (by rw [kS.out]) h⟩
    ·obtain rfl:N=1:=by simpa using HN.out.symm
     obtain⟨bb,ob,rfl,hb,u,hu,hus,hcl⟩:=HI.out w0 (aB.refl _ _) 0 (by simp);rw [bK] at hb;obtain⟨ky,ty,my,ly⟩:=y;rw [List.getElem_cons_zero,cG] at hu;obtain⟨ay,cy,rfl,-⟩:=hu;have q2:w5.cell? ⟨bb,ob+2,none⟩=some (.int .i64 my):=(rZ.out.ext.cell (p:=⟨bb,ob+2,none⟩) hb id).trans ((az H w0).2 _ _ (by have h:=hcl 2 (by decide);simp only [Nat.zero_mul,Nat.add_zero] at h;exact h));have hbl:=Nat.lt_of_lt_of_le hb rZ.out.ext.size;clear hcl hus;have hd:qA (Nd.mk 3 t mm [Nd.mk ky ty my ly]) p=if 1≤my∧my≤64 then (0,0) else (6,p):=rfl
     have jH:FX=if 1≤my∧my≤64 then (0,0) else (6,p):=by rw [HT.out,←zL.out];exact hd
     clear hd;by_cases h1:1≤my
     ·have h1d:decide (1≤my)=true:=by simpa using h1
      by_cases h2:my≤64
      ·have X4:decide (my≤64)=true:=by simpa using h2
       rw [if_pos ⟨h1,h2⟩] at jH;have kS:=Z_ jH;have Vq:varOf x=⟨t,b1,m2,my⟩:=by rw [←zL.out];show fB.mk t (decide (2≤mm % 4)) (mm % 2) my=_;rw [HM.out.1,HM.out.2]
       have HVO:=Z_ Vq;clear jH Vq hy0 hy1;go_wp2_with fail
       refine(dK 6 (p:Nat) _).mono ?_
       rintro e w6 ⟨rfl,rfl⟩;clear hk q2;have IB:=Sj.out.frozen;have PT:=Sj.out.cell;have hvl:=Sj.out.lt;have Vr:=Z_ (show aH (w6.setCell ⟨Vb,3,none⟩ (.int .i64 my)) Vb #[.string t,.bool b1,.int .i64 m2,.int .i64 my] 70 from by have:=Sj.out.set 3 (.int .i64 my);exact this);have hCV:=ak (S:=Vb) (aB.refl _ w6) 3 (.int .i64 my);have DW:=Z_ (Ri.out.ext ((zf.out).bI (p:=⟨Vb,3,none⟩) (by show _≤Vb;have:=Sl.out;omega) (.int .i64 my)));have rB:=Z_ (HD4.out.extend ((zf.out).bI (p:=⟨Vb,3,none⟩) (by show _≤Vb;have:=Sl.out;omega) (.int .i64 my)));clear hCV;go_upto_region 12 with (fail)
       clear IB PT hvl;generalize w6.setCell ⟨Vb,3,none⟩ (.int .i64 my)=w7 at *;refine ah [7,8,12] (fun i v _=>v=([.pointer (some ⟨D,0,none⟩),.pointer (some ⟨D,0,none⟩),.pointer (some ⟨D,0,none⟩),.pointer (some ⟨D,0,none⟩),.pointer (some ⟨D,1,none⟩),.slice ra vs.length rc,.agg #[.string t,.bool b1,.int .i64 m2,.int .i64 my],undef,undef,.pointer (some ⟨D,0,none⟩),.pointer (some ⟨D,0,none⟩),.pointer (some ⟨D,1,none⟩),undef]:List Value).getD i undef) (dn.eu (fun u rN r l=>DS w0 u D Mn Ma B m n0 n1 n2 n3 rN rp ri r rp ri l ps is (L ++ [(t,(p:Int))]) A∧aH u Vb #[.string t,.bool b1,.int .i64 m2,.int .i64 my] 70∧aB (BL D Mn (.slice ra vs.length rc) rp) w u) (fun _=>false) wF (B) 70 (.slice ra vs.length rc) vs ⟨t,b1,m2,my⟩ (.agg #[.string t,.bool b1,.int .i64 m2,.int .i64 my])) (fun _ _=>True) (frame:=?af1) (fun x=>?aa5) bn.mixed (by kernel_rfl) (by kernel_rfl) (fun _ _ _ _ h _=>h) ?h0z ?stz ?aa6
       case aa5=>
        simp only [chain.aK,chain.fill,chain.bf,chain.aW,jJ,jK,jL,jM,jO,jP,jQ,jR,jS];exact rfl
       case h0z=>exact⟨⟨rB.out.extend (aB.refl _ _).drew,Vr.out.ext (aB.refl _ _).drew,DW.out.drew⟩,rfl,hx3⟩
       case stz=>
        iterate 13 (refine ai.cons (fun x vs u hF hm hb hd K' hK'=>?_) ?_;rotate_left)
        exact ai.nil
        ·have HF:=Z_ hF;clear hd hm hb hF;go_simp;exact hK'.out _ _ _ (rfl) trivial ⟨rfl,HF.out⟩
        ·have HF:=Z_ hF;clear hd hm hb hF;go_simp;exact hK'.out _ _ _ (rfl) trivial ⟨rfl,HF.out⟩
        ·have y0:x 76=.pointer (some ⟨D,0,none⟩):=(D_ hd 1 :);have HF:=Z_ hF;clear hd hm hb hF;go_simp;exact hK'.out _ _ _ (by simp only [y0];rfl) trivial ⟨rfl,HF.out⟩
        ·have y0:x 77=.pointer (some ⟨D,0,none⟩):=(D_ hd 2 :);have HF:=Z_ hF;clear hd hm hb hF;go_simp;exact hK'.out _ _ _ (by simp only [y0];rfl) trivial ⟨rfl,HF.out⟩
        ·have y0:x 78=.pointer (some ⟨D,0,none⟩):=(D_ hd 3 :);have HF:=Z_ hF;clear hd hm hb hF;go_simp;exact hK'.out _ _ _ (by simp only [y0];rfl) trivial ⟨rfl,HF.out⟩
        ·have hc:=(dn.eu.B hF (by have:=hb 1 _ (by decide) rfl (by kernel_rfl);omega)).1.d.cell;have y0:x 79=.pointer (some ⟨D,1,none⟩):=(D_ hd 4 :);have HF:=Z_ hF;clear hd hm hb hF;go_simp;exact hK'.out _ _ _ (by simp only [y0];rfl) trivial ⟨rfl,HF.out⟩
        ·have hc:=(dn.eu.B hF (by have:=hb 0 _ (by decide) rfl (by kernel_rfl);omega)).2.1.cell;have HF:=Z_ hF;clear hd hm hb hF;go_simp;exact hK'.out _ _ _ (rfl) trivial ⟨rfl,HF.out⟩
        ·obtain rfl:=kF hm;have y0:x 81=.agg #[.string t,.bool b1,.int .i64 m2,.int .i64 my]:=(D_ hd 6 :);have aP:=hF.1;have HG:=Z_ (dn.bH (mM aP.1.rows.gv kO (fun _=>false)));have HF:=Z_ hF;clear hd hm hb hF aP;go_simp;exact hK'.out _ _ _ (by simp only [y0];rfl) trivial (dn.fF dn.gK (fun u' hE=>⟨HF.out.1.1.extend hE,HF.out.1.2.1.ext hE,HF.out.1.2.2.ext hE⟩) (fun i e=>(HG.out i e).2) HF.out rfl)
        ·obtain⟨v0,rfl⟩:=lK hm
         have y0:x 80=.slice ra vs.length rc:=(D_ hd 5 :);have y1:x 82=v0:=((D_ hd 7) 82 (by kernel_rfl) :);have hF2:=hF;obtain⟨aP,hxx,gg,rfl,hgb,hgr⟩:=hF2;obtain⟨us,hu1,ho,hu3⟩:=(mM aP.1.rows.gv kO (fun _=>false)).ex;obtain⟨jc,jd,hz0,hz1,hz2⟩:=bn.aX dn.wG;have hbz:B≤u.heap.size:=by exact aP.1.hu
         refine wp_append_lies _ _ _ 34 rfl (B) 70 jc (.agg #[.string ⟨#[]⟩,.bool false,.int .i64 0,.int .i64 0]) 4 40 Tryz.underlying34 jd hz0 hz1 hz2 rfl (by decide) (.slice ra vs.length rc) vs.length (us.flatMap fun u=>u.cells.toList) y0 ho ⟨gg,0,none⟩ 1 1 [.string t,.bool b1,.int .i64 m2,.int .i64 my] y1 rfl ?_ (by intro z_ kW;simp only [List.mem_cons,List.not_mem_nil,or_false] at kW;rcases kW with rfl|rfl|rfl|rfl<;>rfl) (by decide) (by unfold maxLen;omega) (by omega) hbz u.heap.size rfl ?_
         ·intro j q hj;have e:(⟨gg,0,none⟩:Addr).add j=⟨gg,j,none⟩:=(by unfold Addr.add;split<;>simp_all);rw [e,hgb.cell];simpa [Value.cells] using hj
         ·intro g9 c9 w9 iQ iJ jU qF
          exact hK'.out _ _ _ rfl trivial (dn.eF dn.gK hF hu1 hu3 rfl (fun r sD hG hC ha=>⟨aP.1.turn hC (fun i e=>(bh aP.1.rows.gv i e).1) (aP.1.rows.ED (yX hG kO) hC ha),aP.2.1.aO hC Tz,aP.2.2.trans hC (fun i _ e=>.inr (.inr (.inl e)))⟩) iQ iJ jU)
        ·have y0:x 75=.pointer (some ⟨D,0,none⟩):=(D_ hd 0 :);have HF:=Z_ hF;clear hd hm hb hF;go_simp;exact hK'.out _ _ _ (by simp only [y0];rfl) trivial ⟨rfl,HF.out⟩
        ·have y0:x 84=.pointer (some ⟨D,0,none⟩):=(D_ hd 9 :);have HF:=Z_ hF;clear hd hm hb hF;go_simp;exact hK'.out _ _ _ (by simp only [y0];rfl) trivial ⟨rfl,HF.out⟩
        ·have y0:x 85=.pointer (some ⟨D,0,none⟩):=(D_ hd 10 :);have HF:=Z_ hF;clear hd hm hb hF;go_simp;exact hK'.out _ _ _ (by simp only [y0];rfl) trivial ⟨rfl,HF.out⟩
        ·obtain⟨v0,v1,rfl⟩:=qX hm
         have y0:x 86=.pointer (some ⟨D,1,none⟩):=(D_ hd 11 :);have y1:x 83=v1:=((D_ hd 8) 83 (by kernel_rfl) :);have hF2:=hF;obtain⟨aP,gg,cc,rfl⟩:=hF2;have hc:=aP.1.d.cell 1;have hf:=aP.1.d.frozen 1;have hl:=aP.1.d.lt;simp at hc
         have HF:=Z_ hF;clear hd hm hb hF aP;go_simp;exact hK'.out _ _ undef (by simp only [y0,y1];rfl) trivial (dn.fG (z:=undef) HF.out (fun h=>⟨h.1.MH,h.2.1.setOther (p:=⟨D,1,none⟩) (by have:=h.1.FN;have:=Vp.out;show Vb≠D;omega) _,h.2.2.setCell (fun _=>.inl rfl) _⟩))
       case aa6=>
        intro x9 qj w9 hl hF hk9;obtain⟨v0,v1,v2,rfl⟩:=KR hl
        clear hk9 hl;have N7:=Z_ (show DS _ _ _ _ _ _ _ _ _ _ _ _ _ _ _ _ _ _ _ _ _ _ from hF.1);have Pm:=Z_ (show aB _ _ _ from hF.2.2);clear hF;go_wp2_with fail
        go_end0
        exact⟨fun _=>⟨rfl,_,_,by rw [if_pos Qx.out,if_pos Qx.out,HVO.out,show x.tx=t by rw [←zL.out];rfl];exact N7.out,Pm.out⟩,fun h=>absurd (by rw [kS.out]) h⟩
      ·have X4:decide (my≤64)=false:=by simpa using h2
       rw [if_neg (fun h=>h2 h.2)] at jH;have kS:=Z_ jH;clear jH;go_wp2_with fail
       refine(eY 6 (p:Nat) _).mono ?_
       rintro e w6 ⟨rfl,rfl⟩;go_wp2_with fail
       refine⟨rfl,?_⟩
       exact dies kS.out (by decide) rZ.out.ext
     ·have h1d:decide (1≤my)=false:=by simpa using h1
      rw [if_neg (fun h=>h1 h.1)] at jH;have kS:=Z_ jH;clear jH;go_wp2_with fail
      refine(eY 6 (p:Nat) _).mono ?_
      rintro e w6 ⟨rfl,rfl⟩;go_wp2_with fail
      refine⟨rfl,?_⟩
      exact dies kS.out (by decide) rZ.out.ext
   ·have hk4:k=4:=hv.kd
    subst hk4;have hkk:∃ ps0 bl,l=ps0 ++ [bl]∧∀ q∈ps0,0≤q.nm∧q.nm≤1:=hv.kids;have hiv:isVar x=false:=by rw [←zL.out];simp [isVar,Nd.kd]
    have Qx:=Z_ hiv;obtain⟨ps0,bl,hl0,hq0⟩:=hkk;obtain⟨M,hM⟩:∃ M,M+1=N:=⟨ps0.length,by rw [←HN.out,hl0];simp⟩;have hDl:l.dropLast=ps0:=by rw [hl0];simp
    have hDM:ps0.length=M:=by rw [←hDl,List.length_dropLast,HN.out];omega
    obtain⟨PR,Qn⟩:∃ PR,ps0.map Nd.nm=PR:=⟨_,rfl⟩;obtain⟨b4,hb4⟩:∃ b,decide (4≤mm)=b:=⟨_,rfl⟩;obtain⟨m8,Xy⟩:∃ z,mm / 8=z:=⟨_,rfl⟩;have hpo:qI x=⟨t,b1,PR,m2,b4,m8⟩:=by rw [←zL.out,←Qn,←hDl];show aI.mk t (decide (2≤mm % 4)) (l.dropLast.map Nd.nm) (mm % 2) (decide (4≤mm)) (mm / 8)=_;rw [HM.out.1,HM.out.2,hb4,Xy]
    have NV:=Z_ hpo;have hd:qA (Nd.mk 4 t mm l) p=if 5<l.dropLast.length then (1,p) else DC p 0 [] l.dropLast:=rfl
    have jH:FX=if 5<M then (1,p) else DC p 0 [] ps0:=by rw [HT.out,←zL.out,hd,hDl,hDM]
    have HT2:=Z_ jH;have HKJ:=Z_ (show ∀ (j:Nat) (hj:j<M),∃ h1:j<l.length,∃ h2:j<ps0.length,l[j]=ps0[j] from fun j hj=>⟨by have:=HN.out;omega,by omega,by have h2:j<ps0.length:=(by omega);simp only [hl0];rw [List.getElem_append_left h2]⟩);have HPR:=Z_ Qn;have HQ0:=Z_ hq0;have HDM:=Z_ hDM;clear hv Ko hiv hpo hd jH Qn hq0 hDM hDl hl0 HT;have hw0:IntKind.i64.wrap ((N:Int)-1)=(M:Int):=by rw [wrap_small _ (by omega) (by omega)];omega
    have hMN:(M:Int)≤(N:Int):=by omega
    have hMc:(M:Int)≤(cc:Int):=by omega
    have PU:(0:Int)≤(M:Int):=by omega
    by_cases h5:5<M
    ·have Un:decide ((M:Int)≤5)=false:=by simp;omega
     have h5e:decide (M≤5)=false:=by simp;omega
     have kS:=Z_ (show FX=(1,p) by have:=HT2.out;rw [if_pos h5] at this;exact this);clear HT2;go_wp2_with fail
     refine(eY 1 (p:Nat) _).mono ?_
     rintro e w6 ⟨rfl,rfl⟩;go_wp2_with fail
     refine⟨rfl,?_⟩
     exact dies kS.out (by decide) rZ.out.ext
    ·have Un:decide ((M:Int)≤5)=true:=by simp;omega
     have h5e:decide (M≤5)=true:=by simp;omega
     obtain⟨G,hG⟩:∃ G,DC p 0 [] ps0=G:=⟨_,rfl⟩;have kS:=Z_ (show FX=G by have:=HT2.out;rw [if_neg h5,hG] at this;exact this);have HG:=Z_ hG;clear HT2 hG;go_wp2_with fail
     refine(dK 1 (p:Nat) _).mono ?_
     rintro e w6 ⟨rfl,rfl⟩;have hmk:=@run_makeMap Tryz.prog;go_upto_region 17 with (fail)
     have Vs:PL w6 ((w6.alloc (.cells #[.string t,.bool b1,.slice none 0 0,.int .i64 m2,.bool b4,.int .i64 m8] 68)).alloc (.map #[] 0)) w6.heap.size (w6.heap.size+1) (w6.heap.size+2) t b1 m2 b4 m8 (.slice none 0 0) (.slice none 0 0) [] []:=by
      have hm0:=kD.made (w6.alloc (.cells #[.string t,.bool b1,.slice none 0 0,.int .i64 m2,.bool b4,.int .i64 m8] 68));rw [show (w6.alloc (.cells #[.string t,.bool b1,.slice none 0 0,.int .i64 m2,.bool b4,.int .i64 m8] 68)).heap.size=w6.heap.size+1 by simp] at hm0;exact⟨((aB.refl _ w6).alloc _).alloc _,(aH.made w6 _ _).alloc _,hm0,Grow.nil _ _ _ _ _,Nat.le_refl _,by omega,by omega,by simp⟩
     have ru:=Z_ Vs;have hK6:=Ej.out.lt;obtain⟨Pb,DX⟩:∃ Pb,w6.heap.size=Pb:=⟨_,rfl⟩;rw [DX] at ru hK6;have R_:=rZ.out.hu;rw [DX] at R_
     try rw [DX]
     clear Vs hk hmk hw0;generalize (w6.alloc (.cells #[.string t,.bool b1,.slice none 0 0,.int .i64 m2,.bool b4,.int .i64 m8] 68)).alloc (.map #[] 0)=w7 at *;obtain⟨Ob,hOb⟩:∃ Ob,Pb+1=Ob:=⟨_,rfl⟩;obtain⟨B2,hB2⟩:∃ B2,Pb+2=B2:=⟨_,rfl⟩;rw [hOb,hB2] at ru
     try rw [hOb]
     have HP6:=Z_ DX;have yY:=Z_ (show M≤5 by omega);clear hOb hB2 DX hMN hMc PU Un h5e h5 hb4 Xy;generalize decide ((M:Int)≤5)=bq5 at *;go_wp2_with fail
     go_loopw [113] (fun i wr=>∃ (j:Nat) (row:Value) (own:List (ByteArray×Int)),j≤M∧i=.int .i64 (j:Nat)∧own.length=j∧Hid (DC p j (eU own) (ps0.drop j)=G)∧Hid (PL w6 wr Pb Ob B2 t b1 m2 b4 m8 row row (PR.take j) own)) (fun i _=>M-(intOf i).toNat)
     case atStart=>exact⟨0,_,[],Nat.zero_le _,rfl,rfl,by rw [List.drop_zero];exact HG,ru⟩
     clear ru HG
     case round=>
      obtain⟨j,row,own,hjM,rfl,hol,HG,ru⟩:=hrel;by_cases hlj:j<M
      ·have hji:(j:Int)<(M:Int):=by omega
       have hjd:decide ((j:Int)<(M:Int))=true:=by simpa using hji
       obtain⟨h1,h2,hlp⟩:=HKJ.out j hlj;obtain⟨bb,ob,e1,hb,u,hu,hus,hcl⟩:=HI.out w0 (aB.refl _ _) j h1;subst e1;rw [bK] at hb;have hE0:Ext w0 wr:=rZ.out.ext.ext ru.out.ext;have hbl:=Nat.lt_of_lt_of_le hb hE0.size;have MI:=HG.out;rw [List.drop_eq_getElem_cons h2,←hlp] at MI;have MJ:=MC HPR.out h2;rw [←hlp] at MJ;generalize l[j]=y at hu MI MJ;obtain⟨ky,ty,my,ly⟩:=y;rw [cG] at hu;obtain⟨ay,cy,rfl,-,-,hty,-⟩:=hu;have q0:wr.cell? ⟨bb,ob+j*4,none⟩=some (.int .i64 ky):=(hE0.cell (p:=⟨bb,ob+j*4,none⟩) hb id).trans ((az H w0).2 _ _ ((hcl 0 (by decide)).trans rfl));have q1:wr.cell? ⟨bb,ob+j*4+1,none⟩=some (.string ty):=(hE0.cell (p:=⟨bb,ob+j*4+1,none⟩) hb id).trans ((az H w0).2 _ _ ((hcl 1 (by decide)).trans rfl));have q2:wr.cell? ⟨bb,ob+j*4+2,none⟩=some (.int .i64 my):=(hE0.cell (p:=⟨bb,ob+j*4+2,none⟩) hb id).trans ((az H w0).2 _ _ ((hcl 2 (by decide)).trans rfl))
       have q3:wr.cell? ⟨bb,ob+j*4+3,none⟩=some (.slice ay ly.length cy):=(hE0.cell (p:=⟨bb,ob+j*4+3,none⟩) hb id).trans ((az H w0).2 _ _ ((hcl 3 (by decide)).trans rfl));clear hcl hus hlp hE0;obtain⟨Ny,hNy⟩:∃ Ny,ly.length=Ny:=⟨_,rfl⟩;rw [hNy] at q3;rw [DC] at MI;have HG2:=Z_ MI;have HPJ:=Z_ MJ;have HQ:=Z_ (aH.made wr #[.int .i64 ky,.string ty,.int .i64 my,.slice ay Ny cy] 24);have Qy:=ru;replace ru:=Z_ (ru.out.extend ((aB.refl (fun _=>False) wr).alloc (.cells #[.int .i64 ky,.string ty,.int .i64 my,.slice ay Ny cy] 24)));have HQO:=Z_ (show Ob<wr.heap.size from by have:=Qy.out.Oh;have:=Qy.out.hu;omega);obtain⟨Q,hQ⟩:∃ Q,wr.heap.size=Q:=⟨_,rfl⟩;rw [hQ] at HQ HQO;clear Qy;clear MI MJ HG hNy;go_upto_region 20 with (fail)
       try rw [hQ]
       generalize wr.alloc (.cells #[.int .i64 ky,.string ty,.int .i64 my,.slice ay Ny cy] 24)=u1 at *;clear q0 q1 q2 q3 hQ;have hq:=HQ.out.cell;have yI:=HQ.out.frozen;have hlook:=ru.out.om.look (s:=ty) (by unfold maxLen;omega);have HKO:=Z_ (vH own ty);obtain⟨X5,Qz⟩:∃ b,(jW own ty).isSome=b:=⟨_,rfl⟩;have ML:=Z_ Qz;rw [Qz] at hlook;generalize (jW own ty).getD 0=c2 at *;obtain⟨p1,hp1⟩:∃ p1,p1=p+1:=⟨_,rfl⟩;obtain⟨p2,hp2⟩:∃ p2,p2=p+1+j:=⟨_,rfl⟩;have hNM:=yY.out;have HW1:=Z_ (show IntKind.i64.wrap ((p:Int)+1)=(p1:Int) by rw [wrap_small _ (by omega) (by omega)];omega);have HW2:=Z_ (show IntKind.i64.wrap ((p1:Int)+(j:Int))=(p2:Int) by rw [wrap_small _ (by omega) (by omega)];omega);have HP2:=Z_ hp2;have HOL:=Z_ hol;have hv1:own.length<9223372036854775807:=by omega
       clear hp1 hp2 Qz hol hNM;cases X5 with
       | true=>
        have HT3:=Z_ (show FX=(5,p2) by rw [kS.out,←HG2.out,if_pos (show (eU own).contains (Nd.mk ky ty my ly).key=true from HKO.out.symm.trans ML.out),HP2.out]);have hw1:=HW1.out;have hw2:=HW2.out;go_wp2_with fail
        refine(eY 5 (p2:Nat) _).mono ?_
        rintro e w8 ⟨rfl,rfl⟩;go_wp2_with fail
        refine⟨rfl,?_⟩
        exact dies HT3.out (by decide) (rZ.out.ext.ext ru.out.ext)
       | false=>
        have hG3:=HG2.out;rw [if_neg (by rw [show (eU own).contains (Nd.mk ky ty my ly).key=false from HKO.out.symm.trans ML.out];exact Bool.false_ne_true)] at hG3;have Rk:=Z_ hG3
        have hnone:jW own ty=none:=by cases Yx:jW own ty with
         | none=>rfl
         | some c=>have:=ML.out;rw [Yx] at this;cases this
        obtain⟨u2,hput,hM2,hg2⟩:=ru.out.om.put (v:=(j:Nat)) hnone (by unfold maxLen;omega:ty.size≤maxLen) (by unfold maxLen;exact hv1) (by omega) (by have:=yY.out;omega);have BN:=Z_ (ru.out.name hg2 hM2);have oK:=Z_ (HQ.out.aO (iF hg2) (by have:=ru.out.om.lt;have:=HQO.out;omega));have hw1:=HW1.out;have hw2:=HW2.out;clear hnone hM2 hg2 HKO ML hG3 HG2;go_wp2_with fail
        refine(dK 5 (p2:Nat) _).mono ?_
        rintro e w8 ⟨rfl,rfl⟩;go_upto_region 23 with (fail)
        clear hq yI hlook hput hw1 hw2;have hq:=oK.out.cell;have hc:=BN.out.pv.cell;have hf:=BN.out.pv.frozen;have hl:=BN.out.pv.lt;obtain⟨ra2,rc2,hrow2,-,-⟩:=dV BN.out.grow;have hPl:(PR.take j).length=j:=by rw [List.length_take,←HPR.out,List.length_map,HDM.out];omega
        obtain⟨PA,hPA⟩:∃ PA,PR.take j=PA:=⟨_,rfl⟩;rw [hPA] at BN hrow2 hPl HPJ;subst hrow2;obtain⟨us,hu1,ho,hu3⟩:=BN.out.grow.ex;have HO:=Z_ ho;have GN:=Z_ (And.intro hu1 hu3);have hub:=BN.out.hu;obtain⟨jc,jd,hz0,hz1,hz2⟩:=aX JF;have HPl:=Z_ hPl;have af2:PA.length≤1000:=by have:=yY.out;omega
        clear ho hu1 hu3 hPl hPA;go_upto_region 24 with (at_builtin;refine wpList_append_lies _ rfl _ _ 46 rfl B2 3 jc (.int .i64 0) 1 8 Tryz.underlying46 jd hz0 hz1 hz2 rfl (by decide) (.slice ra2 PA.length rc2) PA.length (us.flatMap fun u=>u.cells.toList) rfl (HO.out.alloc _) ⟨u2.heap.size,0,none⟩ 1 1 [.int .i64 my] rfl rfl (by intro j z_ hj;have e:(⟨u2.heap.size,0,none⟩:Addr).add j=⟨u2.heap.size,j,none⟩:=(by unfold Addr.add;split<;>simp_all);rw [e,(aH.made u2 _ _).cell];simpa using hj) (by intro z_ kW;simp only [List.mem_cons,List.not_mem_nil,or_false] at kW;subst kW;rfl) (by decide) (by unfold maxLen;omega) (by omega) (by simp;omega) (u2.heap.size+1) (by simp) ?_;intro g c' w9 hown hgrow hat hlt1;have Ak:=Z_ (uD nR GN.out.1 GN.out.2 (x:=my) (v:=.int .i64 my) rfl rfl hown hgrow hat);have MN:=Z_ (BN.out.more Ak.out.1 Ak.out.2);have q1:=MN.out.pv.cell;have Pg:=MN.out.pv.frozen;have Ph:=MN.out.pv.lt;clear hown hgrow hat hc hf hl hq)
        have aa7:=Z_ MN.out.put;clear q1 Pg Ph Ak;go_wp2_with fail
        go_roundw
        case rel=>exact⟨j+1,_,own ++ [(ty,(j:Int))],by omega,by go_num,by rw [List.length_append,HOL.out];rfl,by have h:=Rk.out;rw [show eU (own ++ [(ty,(j:Int))])=eU own ++ [ty.data.toList] by simp [eU]];exact h,by rw [HPJ.out];exact aa7⟩
        case measure=>simp [intOf];omega
      ·obtain rfl:j=M:=by omega
       have hjd:decide ((j:Int)<(j:Int))=false:=by simp
       have MI:=HG.out;rw [List.drop_of_length_le (by rw [HDM.out];exact Nat.le_refl _)] at MI;have HT3:=Z_ (show FX=(0,0) by rw [kS.out,←MI];rfl);have hPT:PR.take j=PR:=List.take_of_length_le (by rw [←HPR.out,List.length_map,HDM.out];exact Nat.le_refl _);rw [hPT] at ru;obtain⟨pa,pc,Vt,-,-⟩:=dV ru.out.grow;subst Vt;obtain⟨pa',pc',e9,aa_,ab1,Vu⟩:=ru.out.grow.row nR JG;injection e9 with e9 e10 e11
       subst e9 e11;have Uu:=Z_ (rZ.out.extend ru.out.ext);have HCE:=Z_ (HC2.out.ext ru.out.ext);obtain⟨ra,rc,hrow,-,-⟩:=lT Uu.out.rows.gp;have hRP:rp.ownBlock≠some Pb:=fun e=>by have:=(bH rZ.out.rows.gp Pb e).2;have:=HP6.out;omega
       have hrA:∀ i,rp.ownBlock=some i→i<B2:=fun i e=>by have:=(bH rZ.out.rows.gp i e).2;have:=HP6.out;have:=ru.out.Qw;have:=ru.out.Oh;omega
       have hXA:∀ i,(fun i=>ownB rv i || ownB ri i) i=true→i<B2:=fun i e=>by
        simp only [Bool.or_eq_true,ownB,decide_eq_true_eq] at e;have:=HP6.out;have:=ru.out.Qw;have:=ru.out.Oh
        rcases e with e|e
        ·have:=(bh rZ.out.rows.gv i e).2;omega
        ·have:=(bh rZ.out.rows.gi i e).2;omega
       have hfr:=BK (w:=wr) (X:=fun i=>ownB rv i || ownB ri i) (row:=rp) (B:=B) (A:=B2) (by have:=ru.out.Qw;have:=ru.out.Oh;omega) hrA hXA;have kR:=Z_ (gZ ⟨t,b1,PR,m2,b4,m8⟩ (.agg #[.string t,.bool b1,.slice pa PR.length pc,.int .i64 m2,.bool b4,.int .i64 m8]) _ _ hfr ⟨pa,pc,rfl,Vu,aa_,ab1,hx3⟩);have Vr:=Z_ ru.out.pv;have Vp:=Z_ (show B≤Pb from R_);subst hrow;clear hfr hrA hXA Vu MI HG;go_upto_region 25 with (fail)
       clear hjd;refine ah [7,8,12] (fun i v _=>v=([.pointer (some ⟨D,0,none⟩),.pointer (some ⟨D,0,none⟩),.pointer (some ⟨D,0,none⟩),.pointer (some ⟨D,0,none⟩),.pointer (some ⟨D,2,none⟩),.slice ra ps.length rc,.agg #[.string t,.bool b1,.slice pa PR.length pc,.int .i64 m2,.bool b4,.int .i64 m8],undef,undef,.pointer (some ⟨D,0,none⟩),.pointer (some ⟨D,0,none⟩),.pointer (some ⟨D,2,none⟩),undef]:List Value).getD i undef) (dn.eu (fun u rN r l=>DS w0 u D Mn Ma B m n0 n1 n2 n3 rv rN ri rv r ri vs l is (L ++ [(t,(p:Int))]) A∧aH u Pb #[.string t,.bool b1,.slice pa PR.length pc,.int .i64 m2,.bool b4,.int .i64 m8] 68∧aB (BL D Mn rv (.slice ra ps.length rc)) w u) (fun i=>ownB rv i || ownB ri i) pF (B) 68 (.slice ra ps.length rc) ps ⟨t,b1,PR,m2,b4,m8⟩ (.agg #[.string t,.bool b1,.slice pa PR.length pc,.int .i64 m2,.bool b4,.int .i64 m8])) (fun _ _=>True) (frame:=?Yu) (fun x=>?O7) bn.mixed (by kernel_rfl) (by kernel_rfl) (fun _ _ _ _ h _=>h) ?Yv ?Yw ?O8
       case O7=>
        simp only [chain.aK,chain.fill,chain.bf,chain.aW,jJ,jK,jL,jM,jO,jP,jQ,jR,jS];exact rfl
       case Yv=>exact⟨⟨Uu.out.extend (aB.refl _ _).drew,Vr.out.ext (aB.refl _ _).drew,HCE.out.drew⟩,gZ _ _ _ _ (aC (aB.refl (fun _=>False) _).drew fun _ _ e=>e.elim) kR.out⟩
       case Yw=>
        iterate 13 (refine ai.cons (fun x vs u hF hm hb hd K' hK'=>?_) ?_;rotate_left)
        exact ai.nil
        ·have HF:=Z_ hF;clear hd hm hb hF;go_simp;exact hK'.out _ _ _ (rfl) trivial ⟨rfl,HF.out⟩
        ·have HF:=Z_ hF;clear hd hm hb hF;go_simp;exact hK'.out _ _ _ (rfl) trivial ⟨rfl,HF.out⟩
        ·have y0:x 145=.pointer (some ⟨D,0,none⟩):=(D_ hd 1 :);have HF:=Z_ hF;clear hd hm hb hF;go_simp;exact hK'.out _ _ _ (by simp only [y0];rfl) trivial ⟨rfl,HF.out⟩
        ·have y0:x 146=.pointer (some ⟨D,0,none⟩):=(D_ hd 2 :);have HF:=Z_ hF;clear hd hm hb hF;go_simp;exact hK'.out _ _ _ (by simp only [y0];rfl) trivial ⟨rfl,HF.out⟩
        ·have y0:x 147=.pointer (some ⟨D,0,none⟩):=(D_ hd 3 :);have HF:=Z_ hF;clear hd hm hb hF;go_simp;exact hK'.out _ _ _ (by simp only [y0];rfl) trivial ⟨rfl,HF.out⟩
        ·have hc:=(dn.eu.B hF (by have:=hb 1 _ (by decide) rfl (by kernel_rfl);omega)).1.d.cell;have y0:x 148=.pointer (some ⟨D,2,none⟩):=(D_ hd 4 :);have HF:=Z_ hF;clear hd hm hb hF;go_simp;exact hK'.out _ _ _ (by simp only [y0];rfl) trivial ⟨rfl,HF.out⟩
        ·have hc:=(dn.eu.B hF (by have:=hb 0 _ (by decide) rfl (by kernel_rfl);omega)).2.1.cell;have HF:=Z_ hF;clear hd hm hb hF;go_simp;exact hK'.out _ _ _ (rfl) trivial ⟨rfl,HF.out⟩
        ·obtain rfl:=kF hm;have y0:x 150=.agg #[.string t,.bool b1,.slice pa PR.length pc,.int .i64 m2,.bool b4,.int .i64 m8]:=(D_ hd 6 :);have aP:=hF.1;have HG:=Z_ (dn.bH (aP.1.rows.gp));have HF:=Z_ hF;clear hd hm hb hF aP;go_simp;exact hK'.out _ _ _ (by simp only [y0];rfl) trivial (dn.fF dn.gZ (fun u' hE=>⟨HF.out.1.1.extend hE,HF.out.1.2.1.ext hE,HF.out.1.2.2.ext hE⟩) (fun i e=>(HG.out i e).2) HF.out rfl)
        ·obtain⟨v0,rfl⟩:=lK hm
         have y0:x 149=.slice ra ps.length rc:=(D_ hd 5 :);have y1:x 151=v0:=((D_ hd 7) 151 (by kernel_rfl) :);have hF2:=hF;obtain⟨aP,hxx,gg,rfl,hgb,hgr⟩:=hF2;obtain⟨us,hu1,ho,hu3⟩:=(aP.1.rows.gp).ex;obtain⟨jc,jd,hz0,hz1,hz2⟩:=bn.aX dn.xY;have hbz:B≤u.heap.size:=by exact aP.1.hu
         refine wp_append_lies _ _ _ 35 rfl (B) 68 jc (.agg #[.string ⟨#[]⟩,.bool false,.slice none 0 0,.int .i64 0,.bool false,.int .i64 0]) 6 72 Tryz.underlying35 jd hz0 hz1 hz2 rfl (by decide) (.slice ra ps.length rc) ps.length (us.flatMap fun u=>u.cells.toList) y0 ho ⟨gg,0,none⟩ 1 1 [.string t,.bool b1,.slice pa PR.length pc,.int .i64 m2,.bool b4,.int .i64 m8] y1 rfl ?_ (by intro z_ kW;simp only [List.mem_cons,List.not_mem_nil,or_false] at kW;rcases kW with rfl|rfl|rfl|rfl|rfl|rfl<;>rfl) (by decide) (by unfold maxLen;omega) (by omega) hbz u.heap.size rfl ?_
         ·intro j q hj;have e:(⟨gg,0,none⟩:Addr).add j=⟨gg,j,none⟩:=(by unfold Addr.add;split<;>simp_all);rw [e,hgb.cell];simpa [Value.cells] using hj
         ·intro g9 c9 w9 iQ iJ jU qF
          exact hK'.out _ _ _ rfl trivial (dn.eF dn.gZ hF hu1 hu3 rfl (fun r sD hG hC ha=>⟨aP.1.turn hC (fun i e=>(bH aP.1.rows.gp i e).1) (aP.1.rows.JJ hG hC ha),aP.2.1.aO hC hRP,aP.2.2.trans hC (fun i _ e=>.inr (.inr (.inr e)))⟩) iQ iJ jU)
        ·have y0:x 144=.pointer (some ⟨D,0,none⟩):=(D_ hd 0 :);have HF:=Z_ hF;clear hd hm hb hF;go_simp;exact hK'.out _ _ _ (by simp only [y0];rfl) trivial ⟨rfl,HF.out⟩
        ·have y0:x 153=.pointer (some ⟨D,0,none⟩):=(D_ hd 9 :);have HF:=Z_ hF;clear hd hm hb hF;go_simp;exact hK'.out _ _ _ (by simp only [y0];rfl) trivial ⟨rfl,HF.out⟩
        ·have y0:x 154=.pointer (some ⟨D,0,none⟩):=(D_ hd 10 :);have HF:=Z_ hF;clear hd hm hb hF;go_simp;exact hK'.out _ _ _ (by simp only [y0];rfl) trivial ⟨rfl,HF.out⟩
        ·obtain⟨v0,v1,rfl⟩:=qX hm
         have y0:x 155=.pointer (some ⟨D,2,none⟩):=(D_ hd 11 :);have y1:x 152=v1:=((D_ hd 8) 152 (by kernel_rfl) :);have hF2:=hF;obtain⟨aP,gg,cc,rfl⟩:=hF2;have hc:=aP.1.d.cell 2;have hf:=aP.1.d.frozen 2;have hl:=aP.1.d.lt;simp at hc
         have HF:=Z_ hF;clear hd hm hb hF aP;go_simp;exact hK'.out _ _ undef (by simp only [y0,y1];rfl) trivial (dn.fG (z:=undef) HF.out (fun h=>⟨h.1.Hy,h.2.1.setOther (p:=⟨D,2,none⟩) (by have:=h.1.FN;have:=Vp.out;show Pb≠D;omega) _,h.2.2.setCell (fun _=>.inl rfl) _⟩))
       case O8=>
        intro x9 qj w9 hl hF hk9;obtain⟨v0,v1,v2,rfl⟩:=KR hl
        clear hk9 hl;have N7:=Z_ (show DS _ _ _ _ _ _ _ _ _ _ _ _ _ _ _ _ _ _ _ _ _ _ from hF.1);have Pm:=Z_ (show aB _ _ _ from hF.2.2);clear hF;go_wp2_with fail
        go_end0
        exact⟨fun _=>⟨rfl,_,_,by rw [if_neg (by rw [Qx.out];exact Bool.false_ne_true),if_neg (by rw [Qx.out];exact Bool.false_ne_true),NV.out,show x.tx=t by rw [←zL.out];rfl];exact N7.out,Pm.out⟩,fun h=>absurd (by rw [HT3.out]) h⟩
end N8
end Go.Proofs.YtpcihajmcejliacGreatDoor
