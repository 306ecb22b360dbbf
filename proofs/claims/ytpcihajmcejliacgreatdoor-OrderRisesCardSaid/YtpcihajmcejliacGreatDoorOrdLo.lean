/- The walk of order.Look. -/
import Derived.Test.YtpcihajmcejliacGreatDoorChkWo
import Derived.Test.YtpcihajmcejliacGreatDoorChkZo
namespace Go.Proofs.YtpcihajmcejliacGreatDoor
open Go.RowKit Go.WideMaps Go.Maps
namespace ord
open bu cG jf chk
theorem _root_.Go.Proofs.YtpcihajmcejliacGreatDoor.Ext.uQ {w w':World} {B:Nat} (h:Ext w w'):bV (hide (below B) w) (hide (below B) w'):=aH (M:=below B) h fun _ _ e=>e.elim
set_option maxRecDepth 100000 in
set_option maxHeartbeats 16000000 in
theorem rZ (ts:List ByteArray) (ta:Option Addr) (n tc:Nat) (w:World) (hn:ts.length=n) (hnm:n≤maxLen) (ht:bC 1 y_ w ta ts) (hv:ErrVar w) (hm:cE w) :
  Calls Tryz.prog 58 #[.slice ta n tc] w (Qq w (jD ts)):=by
 obtain⟨T,hT⟩:∃ T,jD ts=T:=⟨_,rfl⟩;rw [hT];unfold jD at hT;rw [hn] at hT;obtain⟨R,hR⟩:∃ R,w.heap.size=R:=⟨_,rfl⟩;obtain⟨F,hF⟩:∃ F,R+1=F:=⟨_,rfl⟩;have hR0:=(aC.made w #[.pointer none] 133).alloc (.cells #[.int .i64 0,.int .i64 0,.int .i64 0] 48);have kY:=aC.made2 w (.cells #[.pointer none] 133) #[.int .i64 0,.int .i64 0,.int .i64 0] 48;rw [hR] at hR0 kY;rw [hF] at kY;have lH:=((aB.refl (fun _=>False) w).alloc (.cells #[.pointer none] 133)).alloc (.cells #[.int .i64 0,.int .i64 0,.int .i64 0] 48);have hz0:((w.alloc (.cells #[.pointer none] 133)).alloc (.cells #[.int .i64 0,.int .i64 0,.int .i64 0] 48)).heap.size=F+1:=by simp;omega
 have HT:=Z_ hT;have HN:=Z_ hn;have UB:=Z_ ht;have HV:=Z_ hv;have HM:=Z_ hm;have HR0:=Z_ hR0;have o_:=Z_ kY;have HX0:=Z_ lH;have Tf:=Z_ hz0;have hmz:n≤9223372036854775807:=by unfold maxLen at hnm;omega
 clear hT hn ht hv hm hR0 kY lH hz0;go_enter_defers Tryz.func58,Tryz.ntmps58
 go_upto_region 2 with (fail)
 try rw [hR]
 try rw [hF]
 generalize (w.alloc (.cells #[.pointer none] 133)).alloc (.cells #[.int .i64 0,.int .i64 0,.int .i64 0] 48)=u0 at *;by_cases h16:1≤n∧n≤6
 ·have hT1:=HT.out
  rw [if_pos h16] at hT1;have HT1:=Z_ hT1;obtain⟨h1,h6⟩:=h16;have h1i:(1:Int)≤(n:Int):=by omega
  have h6i:(n:Int)≤6:=by omega
  clear hT1 HT;go_wp2_with fail
  refine(bM _ _ _ _).mono ?_
  rintro e w1 ⟨rfl,rfl⟩;go_wp2_with fail
  obtain⟨TF,hTF⟩:∃ TF,jB ts 0=TF:=⟨_,rfl⟩;rw [hTF] at HT1;have MR:=Z_ (show jB (ts.drop 0) 0=TF from hTF);clear hTF;go_loopw [4,40] (fun row x wr=>∃ (q lc:Nat) (la:Option Addr) (Ds:List Nat),q≤n∧x=.int .i64 q∧row=.slice la q lc∧Hid (Ext w1 wr)∧Hid (mG (F+1) wr row Ds (ts.take q))∧Hid (jB (ts.drop q) q=TF)) (fun _ x _=>n-(intOf x).toNat)
  case atStart=>exact⟨0,0,none,[],Nat.zero_le _,rfl,rfl,Z_ (aB.refl _ _),Z_ (mG.nil _ _),MR⟩
  case round=>
   obtain⟨q,lc,la,Ds,hq,rfl,rfl,hE,U9,hfc⟩:=hrel;have AV:=Z_ (HX0.out.ext hE.out);by_cases hlt:q<n
   ·have hqi:(q:Int)<(n:Int):=by omega
    have Np:q<ts.length:=by rw [HN.out];exact hlt
    obtain⟨b,o,rfl,htx,hsz⟩:=EL AV.out UB.out Np;have hf2:=hfc.out;rw [EM Np] at hf2;have Qc:=Z_ (take_snoc Np);generalize ts[q]=s at *;have DF:=Z_ (J4.yX s wr (by unfold maxLen at hsz;omega) (HV.out.ext AV.out) (HM.out.ext AV.out));have HF2:=Z_ hf2;clear hfc hf2 hsz;go_wp2_with fail
    refine DF.out.mono ?_
    rintro e w2 hL;have hE2:=hL.1;have hRw:=(mG.ext U9.out hE2);have hsz2:=hE2.size;by_cases hc:(jg s).2.2.1=0
    ·obtain⟨D,rfl,hD⟩:=Ti hL hc
     have hD2:=Iy (B:=F+1) (row:=.slice la q lc) hD (by have:=Tf.out;have:=hE.out.size;omega) (fun i e=>(U9.out.lt e).2);obtain⟨p,hp⟩:∃ p,(jg s).2.2.2=p:=⟨_,rfl⟩;rw [hp];have qU:=(aB.refl (fun _=>False) w2).alloc (.cells #[.int .i64 0,.int .i64 p] 27);have HB3:=Z_ (aC.made w2 #[.int .i64 0,.int .i64 p] 27);have qW:=Z_ ((hE.out.ext hE2).ext qU);have U2:=Z_ (hRw.ext qU);have HD3:=Z_ (hD2.sure (vG.aK qU fun _ h=>h.elim));have HF3:=Z_ (show jB (ts.drop (q+1)) (q+1)=TF by have h:=HF2.out;rw [if_pos hc] at h;exact h);obtain⟨X,hX⟩:∃ X,w2.heap.size=X:=⟨_,rfl⟩;rw [hX] at HB3;clear hL hE2 hRw hsz2 hD hD2 hp qU DF HF2 hE U9 AV htx;go_upto_region 8 with (fail)
     try rw [hX]
     generalize w2.alloc (.cells #[.int .i64 0,.int .i64 p] 27)=u3 at *;clear hX;have hb3:=HB3.out.cell;go_wp2_with fail
     refine(bM _ _ _ _).mono ?_
     rintro e w4 ⟨rfl,rfl⟩;have hlen:(ts.take q).length=q:=by rw [List.length_take];omega
     have ho:=U2.out.own;rw [hlen] at ho;have HO:=Z_ (ho.alloc (.cells #[.pointer (some ⟨D,0,none⟩)] 122));have Qr:=Z_ (aC.made w4 #[.pointer (some ⟨D,0,none⟩)] 122);have HLEN:=Z_ hlen;have hbs:F+1≤w4.heap.size:=by have:=Tf.out;have:=qW.out.size;omega
     clear ho hlen hb3;obtain⟨iW,iY,hz0,hz1,hz2⟩:=aW LI;go_wp2_with (at_builtin;refine wpList_append_lies _ rfl _ _ 234 rfl (F+1) 122 iW (.pointer none) 1 8 Tryz.underlying234 iY hz0 hz1 hz2 rfl (by decide) (.slice la q lc) q (ptrs Ds) rfl HO.out ⟨w4.heap.size,0,none⟩ 1 1 [.pointer (some ⟨D,0,none⟩)] rfl rfl (by intro j_ z_ hj;have e:(⟨w4.heap.size,0,none⟩:Addr).add j_=⟨w4.heap.size,j_,none⟩:=(by unfold Addr.add;split<;>simp_all);rw [e,Qr.out.cell];simpa using hj) (by intro q_ LJ;simp only [List.mem_cons,List.not_mem_nil,or_false] at LJ;subst LJ;rfl) (by decide) (by unfold maxLen;omega) (by omega) (by simp;omega) (w4.heap.size+1) (by simp) ?_;intro g9 c9 w9 hown hgrow hat hlt1;have qH:=Z_ (U2.out.push HD3.out (o:=.cells #[.pointer (some ⟨D,0,none⟩)] 122) (by rw [HLEN.out];exact hown) hgrow hat);clear hown hgrow hat)
     rw [HLEN.out] at qH;have hxe:=qW.out.trans qH.out.2 (fun i hi e=>by have h1:=(U2.out.lt e).1;have h2:=Tf.out;omega);go_roundw
     case rel=>exact⟨q+1,c9,some ⟨g9,0,none⟩,Ds ++ [D],by omega,by go_num,rfl,Z_ hxe,Z_ (by rw [Qc.out];exact qH.out.1),HF3⟩
     case measure=>simp [intOf];omega
    ·obtain⟨af7,vp,rfl,-⟩:=hL
     obtain⟨c,hcc⟩:∃ c,(jg s).2.2.1=c:=⟨_,rfl⟩;obtain⟨p,hp⟩:∃ p,(jg s).2.2.2=p:=⟨_,rfl⟩;rw [hcc] at hc HF2;rw [hcc,hp];have hcn:(c == 0)=false:=by simpa using hc
     have lu:=Z_ (show TF=.no q c by have h:=HF2.out;rw [if_neg hc] at h;exact h.symm);have ru:=Z_ (show T=.no q c by have h:=HT1.out;rw [lu.out] at h;exact h.symm);have qU:=(aB.refl (fun _=>False) w2).alloc (.cells #[.int .i64 c,.int .i64 p] 27);have HB3:=Z_ (aC.made w2 #[.int .i64 c,.int .i64 p] 27);have qW:=Z_ ((hE.out.ext hE2).ext qU);obtain⟨X,hX⟩:∃ X,w2.heap.size=X:=⟨_,rfl⟩;rw [hX] at HB3;clear hE2 af7 hRw hsz2 hp qU DF HF2 hE U9 AV htx hcc;go_upto_region 8 with (fail)
     try rw [hX]
     generalize w2.alloc (.cells #[.int .i64 c,.int .i64 p] 27)=u3 at *;clear hX;have hb3:=HB3.out.cell;go_wp2_with fail
     refine(bY _ _ _ _).mono ?_
     rintro e w9 ⟨rfl,rfl⟩;go_wp2_with fail
     refine leaves_cons (f:=116) (args:=#[.pointer (some ⟨R,0,none⟩),.pointer (some ⟨F,0,none⟩)]) (by simp) (by simp [go_sem]) ?_
     refine(jd R F _ _ _ _ _ _ _ _ (HR0.out.ext qW.out) (o_.out.ext qW.out) (by omega)).mono ?_
     rintro e u' w'' ⟨rfl,rfl,qN,qO,rC⟩;exact⟨_,bQ rfl _ _ rfl qN Tryz.underlying133 rfl rfl qO Tryz.underlying48 rfl (by kernel_rfl),dead ru.out (HX0.out.ext qW.out) rC (by omega) (by omega)⟩
   ·obtain rfl:n=q:=by omega
    have hnl:¬ ((n:Int)<(n:Int)):=by omega
    have htk:ts.take n=ts:=List.take_of_length_le (by rw [HN.out];exact Nat.le_refl _);have Tj:TF=.ok ():=by have h:=hfc.out;rw [List.drop_of_length_le (by rw [HN.out];exact Nat.le_refl _)] at h;exact h.symm
    have Dc:=Z_ (show mG (F+1) wr (.slice la n lc) Ds ts by have h:=U9.out;rw [htk] at h;exact h);have Tm:=Z_ (BA ts 0 (show jB ts 0=.ok () from MR.out.trans Tj));have hT2:=HT1.out;rw [Tj] at hT2;have HT2:=Z_ (show (namesT ts 0 []).bind (fun L=>(f_ L ts 0).bind fun _=>(iC L ts n []).bind fun O=>(ij L ts O).bind fun _=>(qj L ts).bind fun _=>.ok O)=T from hT2);obtain⟨Gh,XA,hmk⟩:=O8 n h6;have hmm:=@run_makeMap Tryz.prog;have hRc:=(HR0.out.ext hE.out);have V3:=Z_ hRc;have Z9:=((hRc.alloc (.cells Gh 119)).alloc (.map #[] 0)).alloc (.cells #[.slice none 0 0,.slice (some ⟨wr.heap.size,0,none⟩) n n,.map (some (wr.heap.size+1))] 138);have hr1:=Z9.cell;have hr2:=Z9.frozen;have hr3:=Z9.lt;clear hT2 Tj htk U9 hfc HT1 MR hRc;go_upto_region 12 with (fail)
    have lM:=Z_ (O9 (W1:=wr) XA V3.out (o_.out.ext hE.out) hF);obtain⟨Mr,hMr⟩:∃ Mr,wr.heap.size=Mr:=⟨_,rfl⟩;rw [hMr] at lM
    try rw [hMr]
    have HMR:=Z_ hMr;clear hr1 hr2 hr3 Z9 hmk hmm XA hMr;generalize ((((wr.alloc (.cells Gh 119)).alloc (.map #[] 0)).alloc (.cells #[.slice none 0 0,.slice (some ⟨Mr,0,none⟩) n n,.map (some (Mr+1))] 138)).setCell ⟨R,0,none⟩ (.pointer (some ⟨Mr+1+1,0,none⟩)))=u2 at *;obtain⟨W1,hW1⟩:∃ W1,W1=wr:=⟨_,rfl⟩;subst hW1;obtain⟨TN,hTN⟩:∃ TN,namesT ts 0 []=TN:=⟨_,rfl⟩;rw [hTN] at HT2;have Z7:=Z_ (show namesT (ts.drop 0) 0 []=TN from hTN);clear hTN;go_wp2_with fail
    go_loopw [72] (fun x wr=>∃ (q:Nat) (L:List (ByteArray×Int)),q≤n∧x=.int .i64 q∧Hid (PI W1 wr R F Mr n (.slice none 0 0) L)∧Hid (namesT (ts.drop q) q L=TN)∧L.length=q) (fun x _=>n-(intOf x).toNat)
    case atStart=>exact⟨0,[],Nat.zero_le _,rfl,lM,Z7,rfl⟩
    case round=>
     obtain⟨q,L,hq2,rfl,Nq,hnm,hLq⟩:=hrel;by_cases hlt2:q<n
     ·have hqi:(q:Int)<(n:Int):=by omega
      have Np:q<ts.length:=by rw [HN.out];exact hlt2
      have hlr:=Nq.out.row Dc.out;obtain⟨la9,lc9,e9,-,hpa,hown⟩:=hlr.slice;rw [HN.out] at e9;cases e9
      obtain⟨b,o,rfl,hb,hp⟩:=hpa q (by have:=Dc.out.len;omega);have hdec:=hlr.dec q Np;have hDW:Ds[q]'(by have:=Dc.out.len;omega)<W1.heap.size:=by obtain⟨_,_,_,_,_,_,_,_,_,_,_,_,⟨-,b9⟩,-⟩:=(Dc.out.dec q Np).ex;exact b9.lt
      have hn2:=hnm.out;rw [EN Np] at hn2;obtain⟨D,hDq⟩:∃ D,Ds[q]'(by have:=Dc.out.len;omega)=D:=⟨_,rfl⟩;have hpc:wr.cell? ⟨b,o+q,none⟩=some (.pointer (some ⟨D,0,none⟩)):=by have h:=hp;unfold uN at h;rw [Nat.mul_one] at h;rw [h];congr
      rw [hDq] at hdec hDW;have HDL:=Z_ hDW;clear hDW;generalize ts[q]=s at *;obtain⟨a1,c1,a2,c2,a3,c3,d3,d4,d5,d6,Ma,A,⟨m1,b1⟩,-,-,-,-,-,-,-,hnz,-⟩:=hdec.ex;obtain⟨nm,XB⟩:∃ nm,iz s=nm:=⟨_,rfl⟩;obtain⟨nv,Jk⟩:∃ nv,(dP (aJ s).1.kids).length=nv:=⟨_,rfl⟩;obtain⟨np,hnp⟩:∃ np,(aP (aJ s).1.kids).length=np:=⟨_,rfl⟩;obtain⟨ni,hni⟩:∃ ni,(ig s).length=ni:=⟨_,rfl⟩;rw [XB] at hn2 hnz b1;rw [Jk,hnp,hni] at b1;have hlook:=fun k=>(Nq.out.nm.drewN k).look (s:=nm) (by unfold maxLen;omega)
      have af8:=Nq.out.nm;obtain⟨Bq,DJ⟩:∃ Bq,(dD L nm).isSome=Bq:=⟨_,rfl⟩;rw [DJ] at hlook hn2;generalize hca:(dD L nm).getD 0=ca at *;have HNS:=Z_ hn2;have UX:=Z_ b1;have ZY:=Z_ DJ;have Jf:=Z_ hnz;have hr1:=Nq.out.r.cell;have hp1:=Nq.out.p.cell;have hd1:=b1.cell;have hrl:=Nq.out.r.lt;have hpl:=Nq.out.p.lt;have hdl:=b1.lt;clear hlr hpa hown hp hdec hn2 hDq hnm b1 XB Jk hnp hni DJ hnz hca m1;go_upto_region 15 with (fail)
      go_quiet (fail)
      have hnq:=(aB.refl (fun _=>False) wr).drewN nq;have O_:=Z_ (Nq.out.ext hnq);have HB2:=Z_ (UX.out.ext hnq);clear hlook hr1 hp1 hd1 hrl hpl hdl hnq hpc Nq af8;generalize wr.drewN nq=u3 at *;cases Bq with
      | true=>
       have ru:=Z_ (show T=.no q 5 by have h:=HT2.out;rw [←HNS.out,if_pos rfl] at h;exact h.symm);go_wp2_with fail
       refine(bY _ _ _ _).mono ?_
       rintro e w9 ⟨rfl,rfl⟩;go_wp2_with fail
       refine leaves_cons (f:=116) (args:=#[.pointer (some ⟨R,0,none⟩),.pointer (some ⟨F,0,none⟩)]) (by simp) (by simp [go_sem]) ?_
       refine(jd R F _ _ _ _ _ _ _ _ O_.out.r O_.out.f (by omega)).mono ?_
       rintro e u' w'' ⟨rfl,rfl,qN,qO,rC⟩;exact⟨_,bQ rfl _ _ rfl qN Tryz.underlying133 rfl rfl qO Tryz.underlying48 rfl (by kernel_rfl),dead ru.out (O_.out.base AV.out (by omega)) rC (by omega) (by omega)⟩
      | false=>
       have af9:=Z_ (show namesT (ts.drop (q+1)) (q+1) (L ++ [(nm,(q:Int))])=TN by have h:=HNS.out;simpa using h)
       have hnone:dD L nm=none:=by cases WU:dD L nm with
        | none=>rfl
        | some c=>have:=ZY.out;rw [WU] at this;cases this
       have V8:=Z_ hnone;clear HNS hnone;go_wp2_with fail
       refine(bM _ _ _ _).mono ?_
       rintro e w4 ⟨rfl,rfl⟩;go_upto_region 17 with (fail)
       have Xe:=Z_ (show D≠Mr+1 from by have h1:=HMR.out;have h2:=HDL.out;omega);refine aj [10] (fun i v _=>v=([.pointer (some ⟨Mr+1+1,0,none⟩),.pointer (some ⟨Mr+1+1,0,none⟩),.pointer (some ⟨Mr+1+1,2,none⟩),.map (some (Mr+1)),.pointer (some ⟨D,0,none⟩),.pointer (some ⟨D,0,none⟩),.pointer (some ⟨D,0,none⟩),.pointer (some ⟨D,0,none⟩),.string nm,.int .i64 (q:Nat),undef]:List Value).getD i undef) (Tn W1 R F Mr n (.slice none 0 0) L (L ++ [(nm,(q:Int))]) D #[.string nm,.slice a1 nv c1,.slice a2 np c2,d3,d4,d5,d6,.slice a3 ni c3,.map (some Ma)]) (fun _ _=>True) (frame:=?ab2) (fun x=>?Rn) bu.mixed (by kernel_rfl) (by kernel_rfl) (fun _ _ _ _ h _=>h) ?h0n ?stn ?Ro
       case Rn=>
        simp only [chain.aN,chain.fill,chain.bf,chain.aY,jW,jX,jY,jZ,kz,kC,kD,kE,kF];exact rfl
       case h0n=>exact⟨O_.out.ext (aB.refl _ _).drew,HB2.out.ext (aB.refl _ _).drew⟩
       case stn=>
        iterate 11 (refine ak.cons (fun x vs u hF hm hb hd K' hK'=>?_) ?_;rotate_left)
        exact ak.nil
        ·obtain⟨LX,Iz,hDX⟩:=hF.any;have hq:=Iz.r.cell;have HF:=Z_ hF;clear hd hm hb hF;go_simp;exact hK'.out _ _ _ (rfl) trivial ⟨rfl,HF.out⟩
        ·have y0:x 94=.pointer (some ⟨Mr+1+1,0,none⟩):=(D_ hd 0 :);have HF:=Z_ hF;clear hd hm hb hF;go_simp;exact hK'.out _ _ _ (by simp only [y0];rfl) trivial ⟨rfl,HF.out⟩
        ·have y0:x 95=.pointer (some ⟨Mr+1+1,0,none⟩):=(D_ hd 1 :);have HF:=Z_ hF;clear hd hm hb hF;go_simp;exact hK'.out _ _ _ (by simp only [y0];rfl) trivial ⟨rfl,HF.out⟩
        ·obtain⟨LX,Iz,hDX⟩:=hF.any;have hq:=Iz.p.cell;have y0:x 96=.pointer (some ⟨Mr+1+1,2,none⟩):=(D_ hd 2 :);have HF:=Z_ hF;clear hd hm hb hF;go_simp;exact hK'.out _ _ _ (by simp only [y0];rfl) trivial ⟨rfl,HF.out⟩
        ·have HF:=Z_ hF;clear hd hm hb hF;go_simp;exact hK'.out _ _ _ (rfl) trivial ⟨rfl,HF.out⟩
        ·have y0:x 98=.pointer (some ⟨D,0,none⟩):=(D_ hd 4 :);have HF:=Z_ hF;clear hd hm hb hF;go_simp;exact hK'.out _ _ _ (by simp only [y0];rfl) trivial ⟨rfl,HF.out⟩
        ·have y0:x 99=.pointer (some ⟨D,0,none⟩):=(D_ hd 5 :);have HF:=Z_ hF;clear hd hm hb hF;go_simp;exact hK'.out _ _ _ (by simp only [y0];rfl) trivial ⟨rfl,HF.out⟩
        ·have y0:x 100=.pointer (some ⟨D,0,none⟩):=(D_ hd 6 :);have HF:=Z_ hF;clear hd hm hb hF;go_simp;exact hK'.out _ _ _ (by simp only [y0];rfl) trivial ⟨rfl,HF.out⟩
        ·obtain⟨LX,Iz,hDX⟩:=hF.any;have hq:=hDX.cell;have y0:x 101=.pointer (some ⟨D,0,none⟩):=(D_ hd 7 :);have HF:=Z_ hF;clear hd hm hb hF;go_simp;exact hK'.out _ _ _ (by simp only [y0];rfl) trivial ⟨rfl,HF.out⟩
        ·have HF:=Z_ hF;clear hd hm hb hF;go_simp;exact hK'.out _ _ _ (rfl) trivial ⟨rfl,HF.out⟩
        ·obtain rfl:=kS hm;have y0:x 97=.map (some (Mr+1)):=(D_ hd 3 :);have y1:x 102=.string nm:=(D_ hd 8 :);have y2:x 103=.int .i64 (q:Nat):=(D_ hd 9 :);have hF1:=(show _∧_ from hF);obtain⟨w9,hput,hM2,hg2⟩:=hF1.1.nm.put (x:=nm) (v:=(q:Nat)) V8.out (by have:=Jf.out;unfold maxLen;omega) (by unfold maxLen;omega) (by omega) (by omega);have HP7:=Z_ (hF1.1.name hg2 hM2);have Xr:=Z_ (hF1.2.aK (gU hg2) (by have:=Xe.out;omega));clear hd hm hb hF hM2 hg2 hF1;go_simp;exact hK'.out _ _ undef (by simp only [y0,y1,y2];rfl) trivial ⟨HP7.out,Xr.out⟩
       case Ro=>
        intro x vs w9 hl hF hk9;obtain⟨v0,rfl⟩:=L1_ hl
        have jy:=Z_ (show _∧_ from hF);clear hk9 hl hF;go_wp2_with fail
        go_roundw
        case rel=>exact⟨q+1,L ++ [(nm,(q:Int))],by omega,by go_num,Z_ jy.out.1,af9,by simp [hLq]⟩
        case measure=>simp [intOf];omega
     ·obtain rfl:n=q:=by omega
      have ak7:¬ ((n:Int)<(n:Int)):=by omega
      have Tq:TN=.ok L:=by have h:=hnm.out;rw [List.drop_of_length_le (by rw [HN.out];exact Nat.le_refl _)] at h;exact h.symm
      have vu:=HT2.out;rw [Tq] at vu;obtain⟨TI,hTI⟩:∃ TI,f_ L ts 0=TI:=⟨_,rfl⟩;have HT3:=Z_ (show TI.bind (fun _=>(iC L ts n []).bind fun O=>(ij L ts O).bind fun _=>(qj L ts).bind fun _=>.ok O)=T from by rw [←hTI];exact vu);have HTI:=Z_ (show f_ L (ts.drop 0) 0=TI from hTI);have Tt:=Z_ (show namesT ts 0 []=.ok L from Z7.out.trans Tq);clear Tq vu hTI hnm HT2;go_wp2_with fail
      obtain⟨w2,hw2⟩:∃ w2,w2=wr:=⟨_,rfl⟩;subst hw2;go_loopw [107] (fun x wr=>∃ (q:Nat),q≤n∧x=.int .i64 q∧Hid (PI W1 wr R F Mr n (.slice none 0 0) L)∧Hid (f_ L (ts.drop q) q=TI)) (fun x _=>n-(intOf x).toNat)
      case atStart=>exact⟨0,Nat.zero_le _,rfl,Nq,HTI⟩
      case round=>
       obtain⟨q,hq3,rfl,IA,him⟩:=hrel;by_cases hlt3:q<n
       ·have hqi:(q:Int)<(n:Int):=by omega
        have Np:q<ts.length:=by rw [HN.out];exact hlt3
        have hlr:=IA.out.row Dc.out;obtain⟨la9,lc9,e9,-,hpa,hown⟩:=hlr.slice;rw [HN.out] at e9;cases e9
        obtain⟨b,o,rfl,hb,hp⟩:=hpa q (by have:=Dc.out.len;omega);have hdec:=hlr.dec q Np;have hi2:=him.out;rw [Aj Np] at hi2;obtain⟨D,hDq⟩:∃ D,Ds[q]'(by have:=Dc.out.len;omega)=D:=⟨_,rfl⟩;have hpc:wr.cell? ⟨b,o+q,none⟩=some (.pointer (some ⟨D,0,none⟩)):=by have h:=hp;unfold uN at h;rw [Nat.mul_one] at h;rw [h];congr
        rw [hDq] at hdec;generalize ts[q]=s at *;obtain⟨a1,c1,a2,c2,a3,c3,d3,d4,d5,d6,Ma,A,⟨m1,b1⟩,⟨m2,b2⟩,-,-,⟨a9,c9,e9,i1,i2,i3⟩,-,-,-,-,-⟩:=hdec.ex;cases e9
        obtain⟨ni,hni⟩:∃ ni,(ig s).length=ni:=⟨_,rfl⟩;rw [hni] at b1 i1;have XC:ni≤9223372036854775807:=by unfold maxLen at i2;omega
        obtain⟨TK,U6⟩:∃ TK,jC L (ig s) q=TK:=⟨_,rfl⟩;rw [U6] at hi2;have HI2:=Z_ hi2;have oP:=Z_ (show jC L ((ig s).drop 0) q=TK from U6);have Qs:=Z_ hni;have UX:=Z_ b1;have HB2:=Z_ b2;have HI3:=Z_ i3;have hd1:=b1.cell;have hdl:=b1.lt;clear hlr hpa hown hp hdec hi2 hDq him b1 b2 i3 hni U6 m1 m2;go_wp2_with fail
        obtain⟨w3,hw3⟩:∃ w3,w3=wr:=⟨_,rfl⟩;subst hw3;clear hd1 hdl hpc;go_loopw [117] (fun x wr=>∃ (r:Nat),r≤ni∧x=.int .i64 r∧Hid (Ext w3 wr)∧Hid (jC L ((ig s).drop r) q=TK)) (fun x _=>ni-(intOf x).toNat)
        case atStart=>exact⟨0,Nat.zero_le _,rfl,Z_ (aB.refl _ _),oP⟩
        case round=>
         obtain⟨r,hr4,rfl,vJ,hkn⟩:=hrel;have Ak:=Z_ (IA.out.ext vJ.out);by_cases hlt4:r<ni
         ·have hri:(r:Int)<(ni:Int):=by omega
          have hrt:r<(ig s).length:=by rw [Qs.out];exact hlt4
          obtain⟨b4,o4,rfl,hst,hsz⟩:=LK vJ.out HI3.out hrt;have hk2:=hkn.out;rw [EO hrt] at hk2;generalize (ig s)[r]=t at *;have hlook:=Ak.out.nm.look (s:=t) hsz;have af_:=Am (HB2.out.aK vJ.out id) hsz;obtain⟨Bq,DJ⟩:∃ Bq,(dD L t).isSome=Bq:=⟨_,rfl⟩;rw [DJ] at hlook hk2;generalize (dD L t).getD 0=ca at *;generalize (dD A t).getD 0=cp at *;have yx:=Z_ hk2;have hr1:=Ak.out.r.cell;have hp1:=Ak.out.p.cell;have hd1:=(UX.out.ext vJ.out).cell;have hrl:=Ak.out.r.lt;have hpl:=Ak.out.p.lt;have hdl:=(UX.out.ext vJ.out).lt;clear hk2 hkn DJ;cases Bq with
          | true=>
           have HK3:=Z_ (show jC L ((ig s).drop (r+1)) q=TK by have h:=yx.out;simpa using h);clear yx;go_wp2_with fail
           refine(bM _ _ _ _).mono ?_
           rintro e w4 ⟨rfl,rfl⟩;go_wp2_with fail
           go_roundw
           case rel=>exact⟨r+1,by omega,by go_num,vJ,HK3⟩
           case measure=>simp [intOf];omega
          | false=>
           have ru:=Z_ (show T=.no q 4 by have h:=HT3.out;rw [←HI2.out,←yx.out] at h;exact h.symm);clear yx;go_wp2_with fail
           refine(bY _ _ _ _).mono ?_
           rintro e w9 ⟨rfl,rfl⟩;go_wp2_with fail
           refine leaves_cons (f:=116) (args:=#[.pointer (some ⟨R,0,none⟩),.pointer (some ⟨F,0,none⟩)]) (by simp) (by simp [go_sem]) ?_
           refine(jd R F _ _ _ _ _ _ _ _ Ak.out.r Ak.out.f (by omega)).mono ?_
           rintro e u' w'' ⟨rfl,rfl,qN,qO,rC⟩;exact⟨_,bQ rfl _ _ rfl qN Tryz.underlying133 rfl rfl qO Tryz.underlying48 rfl (by kernel_rfl),dead ru.out (Ak.out.base AV.out (by omega)) rC (by omega) (by omega)⟩
         ·obtain rfl:ni=r:=by omega
          have ak8:¬ ((ni:Int)<(ni:Int)):=by omega
          have XD:TK=.ok ():=by have h:=hkn.out;rw [List.drop_of_length_le (by rw [Qs.out];exact Nat.le_refl _)] at h;exact h.symm
          have HI5:=Z_ (show f_ L (ts.drop (q+1)) (q+1)=TI by have h:=HI2.out;rw [XD] at h;exact h);clear XD hkn;go_wp2_with fail
          go_roundw
          case rel=>exact⟨q+1,by omega,by go_num,Ak,HI5⟩
          case measure=>simp [intOf];omega
       ·obtain rfl:n=q:=by omega
        have ak9:¬ ((n:Int)<(n:Int)):=by omega
        have XE:TI=.ok ():=by have h:=him.out;rw [List.drop_of_length_le (by rw [HN.out];exact Nat.le_refl _)] at h;exact h.symm
        have hT4:=HT3.out;rw [XE] at hT4;have HT4:=Z_ (show (iC L ts n []).bind (fun O=>(ij L ts O).bind fun _=>(qj L ts).bind fun _=>.ok O)=T from hT4);clear XE hT4 him HT3;obtain⟨TO,hTO⟩:∃ TO,iC L ts n []=TO:=⟨_,rfl⟩;rw [hTO] at HT4;have HTO:=Z_ hTO;clear hTO;go_upto_region 29 with (fail)
        refine aj [6,9] (fun i v _=>v=([.pointer (some ⟨Mr+1+1,0,none⟩),.slice la n lc,.pointer (some ⟨Mr+1+1,0,none⟩),.pointer (some ⟨Mr+1+1,0,none⟩),.pointer (some ⟨Mr+1+1,2,none⟩),.map (some (Mr+1)),undef,.pointer (some ⟨Mr+1+1,0,none⟩),.pointer (some ⟨Mr+1+1,0,none⟩),undef]:List Value).getD i undef) (Tu W1 R F Mr n L TO) (fun _ _=>True) (frame:=?VJ) (fun x=>?JF) bu.mixed (by kernel_rfl) (by kernel_rfl) (fun _ _ _ _ h _=>h) ?h0t ?stt ?JG
        case JF=>
         simp only [chain.aN,chain.fill,chain.bf,chain.aY,jW,jX,jY,jZ,kz,kC,kD,kE,kF];exact rfl
        case h0t=>exact IA.out.ext (aB.refl _ _).drew
        case stt=>
         iterate 10 (refine ak.cons (fun x vs u hF hm hb hd K' hK'=>?_) ?_;rotate_left)
         exact ak.nil
         ·obtain⟨od9,Iz⟩:=hF.any;have hq:=Iz.r.cell;have HF:=Z_ hF;clear hd hm hb hF;go_simp;exact hK'.out _ _ _ (rfl) trivial ⟨rfl,HF.out⟩
         ·have HF:=Z_ hF;clear hd hm hb hF;go_simp;exact hK'.out _ _ _ (rfl) trivial ⟨rfl,HF.out⟩
         ·obtain⟨od9,Iz⟩:=hF.any;have hq:=Iz.r.cell;have HF:=Z_ hF;clear hd hm hb hF;go_simp;exact hK'.out _ _ _ (rfl) trivial ⟨rfl,HF.out⟩
         ·have y0:x 143=.pointer (some ⟨Mr+1+1,0,none⟩):=(D_ hd 2 :);have HF:=Z_ hF;clear hd hm hb hF;go_simp;exact hK'.out _ _ _ (by simp only [y0];rfl) trivial ⟨rfl,HF.out⟩
         ·have y0:x 144=.pointer (some ⟨Mr+1+1,0,none⟩):=(D_ hd 3 :);have HF:=Z_ hF;clear hd hm hb hF;go_simp;exact hK'.out _ _ _ (by simp only [y0];rfl) trivial ⟨rfl,HF.out⟩
         ·obtain⟨od9,Iz⟩:=hF.any;have hq:=Iz.p.cell;have y0:x 145=.pointer (some ⟨Mr+1+1,2,none⟩):=(D_ hd 4 :);have HF:=Z_ hF;clear hd hm hb hF;go_simp;exact hK'.out _ _ _ (by simp only [y0];rfl) trivial ⟨rfl,HF.out⟩
         ·obtain rfl:=kS hm;have y0:x 142=.slice la n lc:=(D_ hd 1 :);have y1:x 146=.map (some (Mr+1)):=(D_ hd 5 :);have hP0:=(show PI W1 u R F Mr n (.slice none 0 0) L from hF);have hlr:=hP0.row Dc.out;obtain⟨la9,lc9,e9,-,hpa,-⟩:=hlr.slice;rw [HN.out] at e9;cases e9
          have Ri:=Z_ (IB (M:=bg (F+1) (.slice la n lc)) (w:=u) (Nm:=Mr+1) (n:=n) (nc:=lc) (la:=la) (Ds:=Ds) (ts:=ts) (L:=L) Dc.out.len HN.out h6 hpa hlr.dec hP0.nm);rw [HTO.out] at Ri;have HP0:=Z_ hP0;clear hd hm hb hF hP0 hlr hpa;go_simp;refine Ri.out.mono ?_
          rintro e u9 ⟨nS,jJ⟩;cases TO with
          | no m9 c9=>
           obtain rfl:e=_:=jJ;have ru:=Z_ (show T=.no m9 c9 from HT4.out.symm);have jy:=Z_ (HP0.out.ext nS);clear nS hK' Ri;go_wp2_with fail
           refine leaves_cons (f:=116) (args:=#[.pointer (some ⟨R,0,none⟩),.pointer (some ⟨F,0,none⟩)]) (by simp) (by simp [go_sem]) ?_
           refine(jd R F _ _ _ _ _ _ _ _ jy.out.r jy.out.f (by omega)).mono ?_
           rintro e u' w'' ⟨rfl,rfl,qN,qO,rC⟩;exact⟨_,bQ rfl _ _ rfl qN Tryz.underlying133 rfl rfl qO Tryz.underlying48 rfl (by kernel_rfl),dead ru.out (jy.out.base AV.out (by omega)) rC (by omega) (by omega)⟩
          | ok O=>
           obtain⟨a9,c9,rfl,Tv⟩:=jJ;exact hK'.out _ _ _ (by simp only [y0,y1];rfl) trivial ⟨O,a9,c9,rfl,rfl,HP0.out.ext nS,iT (aT (Nat.le_refl _) fun i hi hm=>⟨by have h1:=HP0.out.p.lt;simp [below] at hm ⊢;omega,rfl⟩) Tv⟩
         ·have y0:x 141=.pointer (some ⟨Mr+1+1,0,none⟩):=(D_ hd 0 :);have HF:=Z_ hF;clear hd hm hb hF;go_simp;exact hK'.out _ _ _ (by simp only [y0];rfl) trivial ⟨rfl,HF.out⟩
         ·have y0:x 148=.pointer (some ⟨Mr+1+1,0,none⟩):=(D_ hd 7 :);have HF:=Z_ hF;clear hd hm hb hF;go_simp;exact hK'.out _ _ _ (by simp only [y0];rfl) trivial ⟨rfl,HF.out⟩
         ·obtain⟨v0,rfl⟩:=mD hm
          have y0:x 149=.pointer (some ⟨Mr+1+1,0,none⟩):=(D_ hd 8 :);have y1:x 147=v0:=((D_ hd 6) 147 (by kernel_rfl) :);obtain⟨O,a9,c9,U_,rfl,Qu,Tv⟩:=hF;have hq:=Qu.p.cell;have AL:=Qu.p.frozen;have kW:=Qu.p.lt;have jy:=Z_ Qu;have XF:=Z_ Tv;have Va:=Z_ U_;clear hd hm hb Qu Tv U_;go_simp;exact hK'.out _ _ undef (by simp only [y0,y1];rfl) trivial ⟨O,a9,c9,Va.out,jy.out.order,iT (aH (ai (S:=Mr+1+1) (aB.refl _ u) 0 (.slice a9 O.length c9)) fun i _ e=>by subst e;simp [below]) XF.out⟩
        case JG=>
         intro x vs w9 hl hF hk9;obtain⟨v0,v1,rfl⟩:=DT hl
         obtain⟨O,oa,oc,U_,Qu,Tv⟩:=hF;have jy:=Z_ Qu;have XF:=Z_ Tv;have Dz:=Z_ (show (ij L ts O).bind (fun _=>(qj L ts).bind fun _=>.ok O)=T by have h:=HT4.out;rw [U_] at h;exact h);have oP:=Z_ (HTO.out.trans U_);have q1:=jy.out.r.cell;have q2:=jy.out.p.cell;clear hk9 hl Qu Tv U_ HT4 HTO;obtain⟨m,Qv⟩:∃ m,O.length=m:=⟨_,rfl⟩;rw [Qv] at jy q2;have XG:=Z_ Qv;have hmn:m≤n:=by have h:=G_ n [] O oP.out;simp at h;omega
         have HOI:=Z_ (fun x hx=>Kr n [] O oP.out (fun x h=>by cases h) x hx);obtain⟨TC,hTC⟩:∃ TC,ij L ts O=TC:=⟨_,rfl⟩;rw [hTC] at Dz;have VV:=Z_ (show ij L ts (O.drop 0)=TC from hTC);clear hTC Qv;go_wp2_with fail
         clear q1 q2;go_loopw [155] (fun x wr=>∃ (q:Nat),q≤m∧x=.int .i64 q∧Hid (PI W1 wr R F Mr n (.slice oa m oc) L)∧Hid (bC 1 dJ (hide (below (Mr+1+1+1)) wr) oa O)∧Hid (ij L ts (O.drop q)=TC)) (fun x _=>m-(intOf x).toNat)
         case atStart=>exact⟨0,Nat.zero_le _,rfl,jy,XF,VV⟩
         case round=>
          obtain⟨q,hq5,rfl,Df,hI5,hck⟩:=hrel;by_cases ag0:q<m
          ·have ak_:(q:Int)<(m:Int):=by omega
           have Tz:q<O.length:=by rw [XG.out];exact ag0
           obtain⟨bo,oo,rfl,mg⟩:=RZ hI5.out Tz;have hxi:=HOI.out _ (List.getElem_mem Tz);have hc2:=hck.out;rw [BB Tz] at hc2;generalize O[q]=x at *;obtain⟨i,rfl⟩:∃ i:Nat,x=(i:Int):=⟨x.toNat,by omega⟩;rw [HN.out] at hxi;have hin:i<n:=by omega
           have ag1:(i:Int)<(n:Int):=by omega
           have hit:i<ts.length:=by rw [HN.out];exact hin
           rw [Int.toNat_natCast,getD_at hit] at hc2;obtain⟨bl,ol,D,rfl,hpc,-,hdec⟩:=En (Df.out.row Dc.out) hit;have HXI:=Z_ (jy.out.base AV.out (by omega));obtain⟨b7,o7,rfl,htx,hsz⟩:=EL (Df.out.base AV.out (by omega)) UB.out hit;obtain⟨s,hs9⟩:∃ s,ts[i]=s:=⟨_,rfl⟩;rw [hs9] at hc2 hdec htx hsz;obtain⟨a1,c1,a2,c2,a3,c3,d3,d4,d5,d6,Ma,A,⟨m1,b1⟩,-,-,-,⟨a9,c9,e9,i1,i2,i3⟩,-,-,-,-,-⟩:=hdec.ex;cases e9
           have hfew:=Kt (Tm.out s (by rw [←hs9];exact List.getElem_mem hit));obtain⟨ni,hni⟩:∃ ni,(ig s).length=ni:=⟨_,rfl⟩;rw [hni] at b1 i1 hfew;have XC:ni≤9223372036854775807:=by omega
           have Qs:=Z_ hni;have HI3:=Z_ i3;have HC2:=Z_ hc2;have hd1:=b1.cell;have hdl:=b1.lt;have XH:=Z_ htx;have mM:=Z_ (show s.size≤9223372036854775807 by unfold maxLen at hsz;omega);have al0:ni≤maxLen:=by omega
           clear hc2 hck i3 hni b1 hdec htx hsz m1 hs9;go_wp2_with fail
           obtain⟨w5,hw5⟩:∃ w5,w5=wr:=⟨_,rfl⟩;subst hw5;clear hd1 hdl hpc mg;go_loopw [21,167] (fun row x wr=>∃ (r:Nat),r≤ni∧x=.int .i64 r∧Hid (Ext w5 wr)∧Hid (Grow 3 37 VF (F+1) wr row (((ig s).take r).map (nZ L ts)))∧Hid (∀ g,row.ownBlock=some g→w5.heap.size≤g)) (fun _ x _=>ni-(intOf x).toNat)
           case atStart=>exact⟨0,Nat.zero_le _,rfl,Z_ (aB.refl _ _),Z_ (Grow.nil _ _ _ _ _),Z_ (fun g e=>by cases e)⟩
           case round=>
            obtain⟨r,hr6,rfl,DL,hG6,hown6⟩:=hrel;have CH:=Z_ (Df.out.ext DL.out);by_cases TA:r<ni
            ·have hri:(r:Int)<(ni:Int):=by omega
             have hrt:r<(ig s).length:=by rw [Qs.out];exact TA
             obtain⟨b4,o4,rfl,hst,hsz⟩:=LK DL.out HI3.out hrt;have ag2:=Z_ (take_snoc hrt);generalize (ig s)[r]=t at *;have hlook:=Am CH.out.nm hsz;have hval:=Em Tt.out HN.out h1 t;have Wv:=Z_ (show nZ L ts t=(jg (ts.getD ((dD L t).getD 0).toNat ⟨#[]⟩)).1 from rfl);generalize (dD L t).getD 0=ca at *;obtain⟨j,rfl⟩:∃ j:Nat,ca=(j:Int):=⟨ca.toNat,by omega⟩;have hjn:j<n:=by omega
             have ag3:(j:Int)<(n:Int):=by omega
             have hjt:j<ts.length:=by rw [HN.out];exact hjn
             rw [Int.toNat_natCast,getD_at hjt] at Wv;obtain⟨bj,oj,D2,e2,hpc,hDj,-⟩:=En (CH.out.row Dc.out) hjt;cases e2
             have hD2:=Dc.out.dec j hjt;have hDe:Ds[j]'(by have:=Dc.out.len;omega)=D2:=by rw [List.getElem?_eq_getElem (by have:=Dc.out.len;omega)] at hDj;exact Option.some.inj hDj
             rw [hDe] at hD2;have h00:=Tm.out _ (List.getElem_mem hjt);generalize ts[j]=s2 at *
             have hSu:vG (bg (F+1) (.slice (some ⟨bl,ol,none⟩) n lc)) (bg (F+1) u21) W1 wr:=⟨(CH.out.aK).size,fun i9 hi9 Fq=>by
              simp only [Bool.or_eq_false_iff,bg,decide_eq_false_iff_not] at Fq ⊢;refine⟨⟨Fq.1,fun e=>?_⟩,CH.out.aK.block i9 hi9 fun e=>by have:=CH.out.hF;omega⟩
              have h3:=hown6.out _ e;have h4:=Df.out.aK.size;omega⟩
             have Qw:=Z_ (Ku hD2 hSu (fun i9 e=>by
              simp only [Bool.or_eq_true,bg,decide_eq_true_eq] at e;rcases e with e|e
              ·have:=CH.out.hF;have:=CH.out.f.lt;omega
              ·exact(hG6.out.uz e).2) h00)
             rw [←Wv.out] at Qw;obtain⟨ff,DU⟩:∃ ff,nZ L ts t=ff:=⟨_,rfl⟩;rw [DU] at Qw;have HFF:=Z_ DU;have hr1:=CH.out.r.cell;have hp1:=CH.out.p.cell;clear hsz hval hDj hD2 hDe h00 hSu DU;go_wp2_with fail
             refine Qw.out.mono ?_
             rintro e w6 ⟨fa,fb,fc,fd,rfl,hVF,vO⟩;have HP7:=Z_ (CH.out.ext vO);have AA:=Z_ (DL.out.ext vO);have ML:=Z_ (hG6.out.aK wS vO (fun _ h=>h.elim));have HV7:=Z_ hVF;have HOL:=Z_ (fun i9 (e:u21.ownBlock=some i9)=>(hG6.out.uz e).1);obtain⟨us,hu1,ho,hu3⟩:=ML.out.ex;rw [List.length_map,List.length_take,Nat.min_eq_left (by omega:r≤(ig s).length)] at ho;have HU:=Z_ (And.intro hu1 hu3);have HO:=Z_ (ho.alloc (.cells #[.string ff.modn,.slice fa ff.vars.length fb,.slice fc ff.procs.length fd] 37));have Qr:=Z_ (aC.made w6 #[.string ff.modn,.slice fa ff.vars.length fb,.slice fc ff.procs.length fd] 37);have hbs:F+1≤w6.heap.size:=by have:=HP7.out.f.lt;omega
             clear hu1 hu3 ho hVF vO Qw CH hlook hst hpc hr1 hp1;obtain⟨iW,iY,hz0,hz1,hz2⟩:=aW uf;obtain⟨fm,hfm⟩:∃ fm,ff.modn=fm:=⟨_,rfl⟩;obtain⟨XI,TB⟩:∃ XI,ff.vars.length=XI:=⟨_,rfl⟩;obtain⟨XJ,TD⟩:∃ XJ,ff.procs.length=XJ:=⟨_,rfl⟩;rw [hfm,TB,TD] at HO Qr HV7
             try rw [hfm,TB,TD]
             clear hfm TB TD;go_wp2_with (at_builtin;refine wpList_append_lies _ rfl _ _ 33 rfl (F+1) 37 iW (.agg #[.string ⟨#[]⟩,.slice none 0 0,.slice none 0 0]) 3 64 Tryz.underlying33 iY hz0 hz1 hz2 rfl (by decide) u21 r (us.flatMap fun u=>u.cells.toList) rfl HO.out ⟨w6.heap.size,0,none⟩ 1 1 [.string fm,.slice fa XI fb,.slice fc XJ fd] rfl rfl (by intro j_ z_ hj;have e:(⟨w6.heap.size,0,none⟩:Addr).add j_=⟨w6.heap.size,j_,none⟩:=(by unfold Addr.add;split<;>simp_all);rw [e,Qr.out.cell];simpa using hj) (by intro q_ LJ;simp only [List.mem_cons,List.not_mem_nil,or_false] at LJ;rcases LJ with rfl|rfl|rfl<;>rfl) (by decide) (by unfold maxLen;omega) (by omega) (by simp;omega) (w6.heap.size+1) (by simp) ?_;intro g9 c9 w9 hown hgrow hat hlt1;have qH:=Z_ (oM (acc:=((ig s).take r).map (nZ L ts)) (o:=.cells #[.string fm,.slice fa XI fb,.slice fc XJ fd] 37) wS HU.out.1 HU.out.2 (x:=ff) (v:=.agg #[.string fm,.slice fa XI fb,.slice fc XJ fd]) HV7.out rfl (by rw [List.length_map,List.length_take,Nat.min_eq_left (by omega:r≤(ig s).length)];exact hown) hgrow hat);have aA:=Z_ hat;clear hown hgrow hat)
             have Dx:=Z_ qH.out.1;have kO:=Z_ (AA.out.trans qH.out.2 (fun i9 hi9 e=>by have h3:=hown6.out _ e;omega))
             have ag4:=Z_ (fun g (e:(Value.slice (some ⟨g9,0,none⟩) (r+1) c9).ownBlock=some g)=>show w5.heap.size≤g from by
              have e2:g9=g:=by simpa [Value.ownBlock] using e
              subst e2;rcases aA.out with h|h
              ·exact hown6.out _ h
              ·have:=AA.out.size;omega)
             rw [List.length_map,List.length_take,Nat.min_eq_left (by omega:r≤(ig s).length)] at Dx;go_roundw
             case rel=>exact⟨r+1,by omega,by go_num,kO,Z_ (by rw [ag2.out,List.map_append,List.map_cons,List.map_nil,HFF.out];exact Dx.out),ag4⟩
             case measure=>simp [intOf];omega
            ·obtain rfl:ni=r:=by omega
             have ag5:¬ ((ni:Int)<(ni:Int)):=by omega
             have hG7:=hG6.out;rw [List.take_of_length_le (by rw [Qs.out];exact Nat.le_refl _),←zQ] at hG7;obtain⟨fa,fc,e8,hl8,hc8,hA8⟩:=He hG7;have XK:(uM L ts s).length=ni:=by rw [zQ,List.length_map];exact Qs.out
             rw [XK] at e8 hl8;cases e8
             obtain⟨fs,hfs⟩:∃ fs,uM L ts s=fs:=⟨_,rfl⟩
             have Qx:∀ f∈fs,f.vars.length+f.procs.length<maxLen:=fun f hf=>by
              rw [←hfs,zQ] at hf;obtain⟨t,ht,rfl⟩:=List.mem_map.1 hf;have hval:=Em Tt.out HN.out h1 t;unfold nZ;generalize (dD L t).getD 0=ca at *;obtain⟨j,rfl⟩:∃ j:Nat,ca=(j:Int):=⟨ca.toNat,by omega⟩;have hjt:j<ts.length:=by rw [HN.out];omega
              rw [Int.toNat_natCast,getD_at hjt];exact Oq (Dc.out.dec j hjt) (Tm.out _ (List.getElem_mem hjt))
             have hXw:=CH.out.base AV.out (by omega);have Vd:=Z_ (chk.G5 s wr fs fa fc mM.out (HV.out.ext hXw) (HM.out.ext hXw) (by rw [←hfs];exact hA8) (by rw [←hfs,XK];exact hl8) hc8 Qx);rw [hfs] at HC2 XK;rw [XK] at Vd;have hnz:Sj.NZ (kX s fs):=Sj.Ou fun h=>fun x hx=>((chk.FN h).1 x hx).2.1
             obtain⟨TX,hTX⟩:∃ TX,kX s fs=TX:=⟨_,rfl⟩;obtain⟨PX,Iz⟩:∃ PX,RN s (oQ fs [])=PX:=⟨_,rfl⟩;rw [hTX] at HC2 Vd hnz;rw [Iz] at Vd;have Jf:=Z_ hnz;clear hG7 hA8 Qx hfs hXw hnz hTX Iz hl8 hc8 XK;have htx:=(DL.out.cell (p:=⟨b7,o7+i,none⟩) (by exact World.block_lt_of_cell? w5 _ XH.out) id).trans XH.out;go_wp2_with fail
             refine Vd.out.mono ?_
             rintro e w8 ⟨fU,hT8⟩;have EP:=Z_ (CH.out.ext fU);cases TX with
             | bad c p0=>
              obtain⟨vp,rfl⟩:=hT8;have hcz:c≠0:=fun e=>Jf.out.1 p0 (by rw [e])
              have hcn:(c == 0)=false:=by simpa using hcz
              have ru:=Z_ (show T=.no i c by
               have h:=Dz.out;rw [←HC2.out,if_neg (show ¬ yK (Rz.bad c p0:Rz (Nd×List (ByteArray×aQ)×List (aI×Tr)))=0 from hcz)] at h;exact h.symm)
              have qU:=(aB.refl (fun _=>False) w8).alloc (.cells #[.int .i64 c,.int .i64 PX] 27);have HB3:=Z_ (aC.made w8 #[.int .i64 c,.int .i64 PX] 27);have jy:=Z_ (EP.out.ext qU);obtain⟨X,hX⟩:∃ X,w8.heap.size=X:=⟨_,rfl⟩;rw [hX] at HB3;clear fU qU hcz Vd HC2 htx;go_upto_region 40 with (fail)
              try rw [hX]
              generalize w8.alloc (.cells #[.int .i64 c,.int .i64 PX] 27)=u9 at *;clear hX;have hb3:=HB3.out.cell;go_wp2_with fail
              refine(bY _ _ _ _).mono ?_
              rintro e w9 ⟨rfl,rfl⟩;go_wp2_with fail
              refine leaves_cons (f:=116) (args:=#[.pointer (some ⟨R,0,none⟩),.pointer (some ⟨F,0,none⟩)]) (by simp) (by simp [go_sem]) ?_
              refine(jd R F _ _ _ _ _ _ _ _ jy.out.r jy.out.f (by omega)).mono ?_
              rintro e u' w'' ⟨rfl,rfl,qN,qO,rC⟩;exact⟨_,bQ rfl _ _ rfl qN Tryz.underlying133 rfl rfl qO Tryz.underlying48 rfl (by kernel_rfl),dead ru.out (jy.out.base AV.out (by omega)) rC (by omega) (by omega)⟩
             | ok rr=>
              obtain⟨Mo,D9,cO,dw,e0,e1,e2,e3,e4,e5,e6,e7,e8,rfl,-⟩:=hT8;have wu:=Z_ (show ij L ts (O.drop (q+1))=TC from HC2.out);have qU:=(aB.refl (fun _=>False) w8).alloc (.cells #[.int .i64 0,.int .i64 0] 27);have HB3:=Z_ (aC.made w8 #[.int .i64 0,.int .i64 0] 27);have jy:=Z_ (EP.out.ext qU);have kO:=Z_ ((DL.out.ext fU).ext qU);obtain⟨X,hX⟩:∃ X,w8.heap.size=X:=⟨_,rfl⟩;rw [hX] at HB3;clear fU qU Vd HC2 htx;go_upto_region 40 with (fail)
              try rw [hX]
              generalize w8.alloc (.cells #[.int .i64 0,.int .i64 0] 27)=u9 at *;clear hX;have hb3:=HB3.out.cell;go_wp2_with fail
              refine(bM _ _ _ _).mono ?_
              rintro e w9 ⟨rfl,rfl⟩;clear hb3;have hr1:=jy.out.r.cell;have hp1:=jy.out.p.cell;obtain⟨mc,hmc,hmb⟩:=jy.out.mr;have hm1:=hmb.cell;have hm2:=hmb.frozen;have hm3:=hmb.lt;have ag6:=Z_ (jy.out.module i (.pointer (some ⟨Mo,0,none⟩)));have XF:=Z_ (iT ((Ext.uQ kO.out).trans (aH (M:=below (Mr+1+1+1)) (ai (S:=Mr) (aB.refl _ w9) i (.pointer (some ⟨Mo,0,none⟩))) fun i9 _ e=>by subst e;unfold below;rw [decide_eq_true_eq];omega)) hI5.out);go_wp2_with fail
              go_roundw
              case rel=>exact⟨q+1,by omega,by go_num,ag6,XF,wu⟩
              case measure=>simp [intOf];omega
          ·obtain rfl:m=q:=by omega
           have al1:¬ ((m:Int)<(m:Int)):=by omega
           have XL:TC=.ok ():=by have h:=hck.out;rw [List.drop_of_length_le (by rw [XG.out];exact Nat.le_refl _)] at h;exact h.symm
           have MN:=Z_ (show (qj L ts).bind (fun _=>.ok O)=T by have h:=Dz.out;rw [XL] at h;exact h);have hlook:=Df.out.nm.look (s:=⟨#[109,97,105,110]⟩) (by decide);have hval:=Em Tt.out HN.out h1 uS;obtain⟨Mq,hMq⟩:∃ Mq,dD L uS=Mq:=⟨_,rfl⟩;rw [show dD L ⟨#[109,97,105,110]⟩=Mq from hMq] at hlook;rw [hMq] at hval;have HMQ:=Z_ hMq;have hr1:=Df.out.r.cell;have hp1:=Df.out.p.cell;clear XL hck hMq;cases Mq with
           | none=>
            have ru:=Z_ (show T=.no 0 4 by have h:=MN.out;unfold qj at h;rw [HMQ.out] at h;exact h.symm);go_wp2_with fail
            refine(bY _ _ _ _).mono ?_
            rintro e w9 ⟨rfl,rfl⟩;go_wp2_with fail
            refine leaves_cons (f:=116) (args:=#[.pointer (some ⟨R,0,none⟩),.pointer (some ⟨F,0,none⟩)]) (by simp) (by simp [go_sem]) ?_
            refine(jd R F _ _ _ _ _ _ _ _ Df.out.r Df.out.f (by omega)).mono ?_
            rintro e u' w'' ⟨rfl,rfl,qN,qO,rC⟩;exact⟨_,bQ rfl _ _ rfl qN Tryz.underlying133 rfl rfl qO Tryz.underlying48 rfl (by kernel_rfl),dead ru.out (Df.out.base AV.out (by omega)) rC (by omega) (by omega)⟩
           | some jm=>
            obtain⟨j,rfl⟩:∃ j:Nat,jm=(j:Int):=⟨jm.toNat,by have:=hval.1;simp at this;omega⟩;have hjn:j<n:=by have:=hval.2;simp at this;omega
            have ag3:(j:Int)<(n:Int):=by omega
            have hjt:j<ts.length:=by rw [HN.out];exact hjn
            obtain⟨bl,ol,D,rfl,hpc,-,hdec⟩:=En (Df.out.row Dc.out) hjt;have Ve:=MN.out;unfold qj at Ve;rw [HMQ.out] at Ve;simp only [Int.toNat_natCast,getD_at hjt] at Ve;generalize ts[j]=s at *;obtain⟨a1,c1,a2,c2,a3,c3,d3,d4,d5,d6,Ma,A,⟨m1,b1⟩,-,-,p1,-,-,-,hpn,-⟩:=hdec.ex;obtain⟨np,hnp⟩:∃ np,(aP (aJ s).1.kids).length=np:=⟨_,rfl⟩;have HCP:=Z_ (yB a2 (aP (aJ s).1.kids) np c2 wr hnp (by omega) (p1.keeps (ah _ _) fun b o y=>dB.keeps (ah _ _)));obtain⟨Bq,DJ⟩:∃ Bq,(aP (aJ s).1.kids).any jU=Bq:=⟨_,rfl⟩;rw [DJ] at HCP Ve;rw [hnp] at b1;have hd1:=b1.cell;have hdl:=b1.lt;have MO:=Z_ Ve;clear Ve hdec p1 DJ hnp b1 m1 hval MN;go_wp2_with fail
            refine HCP.out.mono ?_
            rintro e w8 ⟨rfl,fU⟩;have EP:=Z_ (Df.out.ext fU);have HI8:=Z_ (iT (Ext.uQ fU) hI5.out);clear hlook hr1 hp1 hpc hd1 hdl fU HCP;cases Bq with
            | false=>
             have ru:=Z_ (show T=.no 0 4 from MO.out.symm);go_wp2_with fail
             refine(bY _ _ _ _).mono ?_
             rintro e w9 ⟨rfl,rfl⟩;go_wp2_with fail
             refine leaves_cons (f:=116) (args:=#[.pointer (some ⟨R,0,none⟩),.pointer (some ⟨F,0,none⟩)]) (by simp) (by simp [go_sem]) ?_
             refine(jd R F _ _ _ _ _ _ _ _ EP.out.r EP.out.f (by omega)).mono ?_
             rintro e u' w'' ⟨rfl,rfl,qN,qO,rC⟩;exact⟨_,bQ rfl _ _ rfl qN Tryz.underlying133 rfl rfl qO Tryz.underlying48 rfl (by kernel_rfl),dead ru.out (EP.out.base AV.out (by omega)) rC (by omega) (by omega)⟩
            | true=>
             have ru:=Z_ (show T=.ok O from MO.out.symm);go_wp2_with fail
             refine(bM _ _ _ _).mono ?_
             rintro e w9 ⟨rfl,rfl⟩;go_upto_region 45 with (fail)
             refine aj [2,3] (fun i v _=>v=([.pointer (some ⟨Mr+1+1,0,none⟩),.agg #[.int .i64 0,.int .i64 0,.int .i64 0],undef,undef]:List Value).getD i undef) (fun _ u=>aC u R #[.pointer (some ⟨Mr+1+1,0,none⟩)] 133∧aC u F #[.int .i64 0,.int .i64 0,.int .i64 0] 48∧aB (fun i=>i=R∨i=F) w9 u) (fun _ _=>True) (frame:=?ae1) (fun x=>?SY) bu.mixed (by kernel_rfl) (by kernel_rfl) (fun _ _ _ _ h _=>h) ?h0z ?stz ?SZ
             case SY=>
              simp only [chain.aN,chain.fill,chain.bf,chain.aY,jW,jX,jY,jZ,kz,kC,kD,kE,kF];exact rfl
             case h0z=>exact⟨EP.out.r.drew,EP.out.f.drew,(aB.refl _ _).drew⟩
             case stz=>
              iterate 4 (refine ak.cons (fun x vs u hF hm hb hd K' hK'=>?_) ?_;rotate_left)
              exact ak.nil
              ·have hq:=hF.1.cell;have HF:=Z_ hF;clear hd hm hb hF;go_simp;exact hK'.out _ _ _ (rfl) trivial ⟨rfl,HF.out⟩
              ·have hq:=hF.2.1.cell;have HF:=Z_ hF;clear hd hm hb hF;go_simp;exact hK'.out _ _ _ (rfl) trivial ⟨rfl,HF.out⟩
              ·obtain rfl:=kS hm;have y0:x 232=.pointer (some ⟨Mr+1+1,0,none⟩):=(D_ hd 0 :);obtain⟨g1,g2,g3⟩:=(show _∧_ from hF);have hq:=g1.cell;have AL:=g1.frozen;have kW:=g1.lt;have HG:=Z_ (And.intro g1 (And.intro g2 g3));clear hd hm hb hF g1 g2 g3;go_simp;obtain⟨g1,g2,g3⟩:=HG.out;exact hK'.out _ _ undef (by simp only [y0];rfl) trivial ⟨g1.set 0 _,g2.setOther (p:=⟨R,0,none⟩) (by show F≠R;omega) _,g3.setCell (p:=⟨R,0,none⟩) (fun _=>.inl rfl) _⟩
              ·obtain⟨v0,rfl⟩:=mD hm
               have y0:x 233=.agg #[.int .i64 0,.int .i64 0,.int .i64 0]:=(D_ hd 1 :);obtain⟨g1,g2,g3⟩:=(show _∧_ from hF);have hq:=g2.cell;have AL:=g2.frozen;have kW:=g2.lt;have HG:=Z_ (And.intro g1 (And.intro g2 g3));clear hd hm hb hF g1 g2 g3;go_simp;obtain⟨g1,g2,g3⟩:=HG.out;exact hK'.out _ _ undef (by simp only [y0];rfl) trivial ⟨((g1.setOther (p:=⟨F,0,none⟩) (by show R≠F;omega) _).setOther (p:=⟨F,1,none⟩) (by show R≠F;omega) _).setOther (p:=⟨F,2,none⟩) (by show R≠F;omega) _,((g2.set 0 _).set 1 _).set 2 _,((g3.setCell (p:=⟨F,0,none⟩) (fun _=>.inr rfl) _).setCell (p:=⟨F,1,none⟩) (fun _=>.inr rfl) _).setCell (p:=⟨F,2,none⟩) (fun _=>.inr rfl) _⟩
             case SZ=>
              intro x9 qX wz hl hF hk9;have jy:=Z_ (show _∧_ from hF);clear hk9 hl hF;go_wp2_with fail
              refine leaves_cons (f:=116) (args:=#[.pointer (some ⟨R,0,none⟩),.pointer (some ⟨F,0,none⟩)]) (by simp) (by simp [go_sem]) ?_
              refine(LL R F _).mono ?_
              rintro e u' w'' ⟨rfl,rfl,rfl⟩;rw [ru.out];have hpz:=EP.out.p.aK jy.out.2.2 (fun e=>by have h2:=EP.out.hF;have h3:=EP.out.TE;omega);refine⟨_,bQ rfl _ _ rfl jy.out.1 Tryz.underlying133 rfl rfl jy.out.2.1 Tryz.underlying48 rfl (by kernel_rfl),?_⟩
              refine⟨(EP.out.base AV.out (by omega)).trans jy.out.2.2 (fun i9 hi9 e=>by omega),Mr+1+1,oa,oc,_,_,rfl,by rw [XG.out];exact hpz,?_⟩
              have h8:=EP.out.TE;exact iT (aT (M:=below (Mr+1+1+1)) (M':=below w.heap.size) (Nat.le_refl _) fun i9 hi9 Fq=>⟨by simp [below] at Fq ⊢;omega,rfl⟩) (iT (aH (M:=below (Mr+1+1+1)) jy.out.2.2 fun i9 _ e=>by have h2:=EP.out.hF;have h3:=EP.out.TE;simp [below];omega) HI8.out)
 ·have HT1:=Z_ (show T=.no 0 1 by have h:=HT.out;rw [if_neg h16] at h;exact h.symm)
  by_cases h1:1≤n
  ·have h1i:(1:Int)≤(n:Int):=by omega
   have h6i:¬ (n:Int)≤6:=by omega
   clear HT;go_wp2_with fail
   refine(bY _ _ _ _).mono ?_
   rintro e w9 ⟨rfl,rfl⟩;go_wp2_with fail
   refine leaves_cons (f:=116) (args:=#[.pointer (some ⟨R,0,none⟩),.pointer (some ⟨F,0,none⟩)]) (by simp) (by simp [go_sem]) ?_
   refine(jd R F _ _ _ _ _ _ _ _ HR0.out o_.out (by omega)).mono ?_
   rintro e u' w'' ⟨rfl,rfl,qN,qO,rC⟩;exact⟨_,bQ rfl _ _ rfl qN Tryz.underlying133 rfl rfl qO Tryz.underlying48 rfl (by kernel_rfl),dead HT1.out HX0.out rC (by omega) (by omega)⟩
  ·have h1i:¬ (1:Int)≤(n:Int):=by omega
   clear HT;go_wp2_with fail
   refine(bY _ _ _ _).mono ?_
   rintro e w9 ⟨rfl,rfl⟩;go_wp2_with fail
   refine leaves_cons (f:=116) (args:=#[.pointer (some ⟨R,0,none⟩),.pointer (some ⟨F,0,none⟩)]) (by simp) (by simp [go_sem]) ?_
   refine(jd R F _ _ _ _ _ _ _ _ HR0.out o_.out (by omega)).mono ?_
   rintro e u' w'' ⟨rfl,rfl,qN,qO,rC⟩;exact⟨_,bQ rfl _ _ rfl qN Tryz.underlying133 rfl rfl qO Tryz.underlying48 rfl (by kernel_rfl),dead HT1.out HX0.out rC (by omega) (by omega)⟩
end ord
end Go.Proofs.YtpcihajmcejliacGreatDoor
