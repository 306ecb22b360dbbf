/- The walk of the program's May: a face. -/
import Derived.Deep.RegionHeld3
import Derived.StillTailTactics
import Derived.Test.YtpcihajmcejliacGreatDoorName
import Derived.Test.YtpcihajmcejliacGreatDoorFaceEq
namespace Go.Proofs.YtpcihajmcejliacGreatDoor
open Go.RowKit Go.WideMaps Go.Maps
def Dn (v:jw):Bool:=OA v&&nameB v.key
def xO (p:aO):Bool:=DU p&&nameB p.key
namespace face
theorem U6 (f:bf):sG f=(f.vars.all Dn&&f.procs.all xO&&(nameB f.modn.data.toList&&decide (f.vars.length+f.procs.length≤20)&&jE f.keys)):=by
 rw [sG,bf.keys]
 have e1:f.vars.all Dn=(f.vars.all OA&&(f.vars.map jw.key).all nameB):=by
  induction f.vars with
  | nil=>rfl
  | cons x r ih=>simp only [List.all_cons,List.map_cons,ih,Dn];cases OA x<;>cases nameB x.key<;>cases r.all OA<;>rfl
 have e2:f.procs.all xO=(f.procs.all DU&&(f.procs.map aO.key).all nameB):=by
  induction f.procs with
  | nil=>rfl
  | cons x r ih=>simp only [List.all_cons,List.map_cons,ih,xO];cases DU x<;>cases nameB x.key<;>cases r.all DU<;>rfl
 rw [e1,e2,List.all_append];cases f.vars.all OA<;>cases f.procs.all DU<;>cases (f.vars.map jw.key).all nameB<;>cases (f.procs.map aO.key).all nameB<;>cases nameB f.modn.data.toList<;>cases decide (f.vars.length+f.procs.length≤20)<;>cases jE (f.vars.map jw.key++f.procs.map aO.key)<;>rfl
theorem yV:Keyed Tryz.prog 9:=string_keyed Tryz.underlying9
theorem LN (w:World):(zeroValue 3).run Tryz.prog w=.ok (.int .i64 0) w:=by kernel_rfl
theorem Bz (f:bf):f.keys.length=f.vars.length+f.procs.length:=by simp [bf.keys]
theorem RI (f:bf) (k:Nat) (h:k<f.vars.length):f.keys.take (k+1)=f.keys.take k ++ [f.vars[k].name.data.toList]:=by
 have h2:k<f.keys.length:=by rw [Bz];omega
 rw [List.take_succ_eq_append_getElem h2];congr 2
 simp [bf.keys,jw.key,h]
theorem OB (f:bf) (n:Nat) (hn:f.vars.length=n) (j:Nat) (h:j<f.procs.length):f.keys.take (n+j+1)=f.keys.take (n+j) ++ [f.procs[j].name.data.toList]:=by
 subst hn;have h2:f.vars.length+j<f.keys.length:=by rw [Bz];omega
 rw [List.take_succ_eq_append_getElem h2];congr 2
 simp [bf.keys,aO.key]
theorem DV {w w':World} {b:Nat} (h:w.grownBy w' (some b)):aB (fun i=>i=b) w w':=
 ⟨h.os,h.tape,h.output,h.size,fun k hk hn=>h.block k hk (fun e=>hn (by cases e;rfl))⟩
theorem jF {w w':World} (h:Ext w w'):w.grownBy w' none:=
 ⟨h.os,h.tape,h.output,h.size,fun k hk _=>h.block k hk id⟩
set_option maxRecDepth 100000 in
set_option maxHeartbeats 8000000 in
theorem U0 (x:bf) (v:Value) (w:World) (hx:kL w x v) (hsum:x.vars.length+x.procs.length<maxLen) (hev:ErrVar w) (hmv:dG w) :
  Calls Tryz.prog 20 #[v] w fun e w'=>e=.returned (.bool (sG x))∧Ext w w':=by
 have hmm:=@run_makeMap Tryz.prog;obtain⟨a,am,c,cm,rfl,ha,hc,hmod,ha1,ha2,hc1,hc2⟩:=hx;unfold maxLen at ha2 hc2 hmod;rw [U6];have Yl:=Z_ (Bz x);have HKV:=Z_ (RI x);have HKP:=Z_ (OB x);generalize x.keys=K at *;obtain⟨xn,xv,xp⟩:=x;simp only at *;have HA:=Z_ (And.intro ha hc);obtain⟨n1,hn1⟩:∃ n,xv.length=n:=⟨_,rfl⟩;obtain⟨n2,hn2⟩:∃ n,xp.length=n:=⟨_,rfl⟩;rw [hn1,hn2] at Yl;simp only [hn1,hn2] at ha1 hc1 hsum ⊢;have HKP:=Z_ (HKP.out n1 hn1);have H1:=Z_ hn1;have H2:=Z_ hn2;have JU:=Z_ (fun w hev hmv=>name.oG xn w hmod hev hmv);generalize nameB xn.data.toList=A1 at *;have hB1:aJ (w.alloc (.cells #[.string xn,.slice a n1 am,.slice c n2 cm] 37)) w.heap.size #[.string xn,.slice a n1 am,.slice c n2 cm] 37:=aJ.made _ _ _
 have hE:Ext w ((w.alloc (.cells #[.string xn,.slice a n1 am,.slice c n2 cm] 37)).alloc (.map #[] 0)):=((aB.refl _ _).alloc _).alloc _;have hz:(w.alloc (.cells #[.string xn,.slice a n1 am,.slice c n2 cm] 37)).heap.size=w.heap.size+1:=by simp
 have Yr:=World.ownsMap_made (w.alloc (.cells #[.string xn,.slice a n1 am,.slice c n2 cm] 37)) Tryz.prog 9 (plainElem (H:=Unit) Tryz.prog 3);rw [hz] at Yr;have hX:=hB1.alloc (.map #[] 0);have hz0:((w.alloc (.cells #[.string xn,.slice a n1 am,.slice c n2 cm] 37)).alloc (.map #[] 0)).heap.size=w.heap.size+2:=by simp
 have HX:=Z_ hX;have HE:=Z_ hE;have HM:=Z_ Yr;have HZ:=Z_ hz0;generalize hB:(xv.all Dn&&xp.all xO&&(A1&&decide (n1+n2≤20)&&jE K))=B;have Gm:=Z_ (fun h:xv.all Dn=false=>show B=false by rw [←hB,h];rfl);have HF2:=Z_ (fun h:xp.all xO=false=>show B=false by rw [←hB,h];cases xv.all Dn<;>rfl);have HT:=Z_ (fun (h:xv.all Dn=true) (h2:xp.all xO=true)=>show B=(A1&&decide (n1+n2≤20)&&jE K) by rw [←hB,h,h2];rfl);clear ha hc hn1 hn2 hB1 hE hz Yr hX hz0 hB;go_enter Tryz.func20,Tryz.ntmps20
 go_wp2_with fail
 generalize (w.alloc (.cells #[.string xn,.slice a n1 am,.slice c n2 cm] 37)).alloc (.map #[] 0)=w0 at *;have hEw:=HE.out;have hz0:=HZ.out;have ae6:=hsum;unfold maxLen at ae6;have OC:=Z_ (fun (w':World) (h:Ext w w')=>hev.ext h);have rC:=Z_ (fun (w':World) (h:Ext w w')=>hmv.ext h);have hM:=HM.out;clear hev hmv HM HZ HE;go_loopw [14] (fun i wr=>∃ (k:Nat) (D:DataW Unit),k≤n1∧i=.int .i64 k∧wr.ownsMap Tryz.prog 9 (plainElem Tryz.prog 3) (w.heap.size+1) k D∧Ho D (K.take k)∧Hid ((xv.take k).all Dn=true)∧aB (fun b=>b=w.heap.size+1) w0 wr) (fun i _=>n1-(intOf i).toNat)
 case atStart=>exact⟨0,_,Nat.zero_le _,rfl,hM,OD,by simp [Hid],aB.refl _ _⟩
 case round=>
  obtain⟨k,D,hk,rfl,hown,hmo,hrel,hC⟩:=hrel;have Ol:=Z_ hmo;clear hM hmo;have hEr:Ext w wr:=hEw.trans hC (fun i hi e=>by omega);have hzr:=hC.size;by_cases hlt:k<n1
  ·have hki:(k:Int)<(n1:Int):=by omega
   have hlk:k<xv.length:=by rw [H1.out];exact hlt
   obtain⟨bl,ol,rfl,hbl,cl⟩:=HA.out.1 k hlk;have av8:=Nat.lt_of_lt_of_le hbl hEr.size;obtain⟨l0,l1,l2,l3,lz⟩:=og.ext hEr hbl cl;have hs:=BA Dn xv k hlk;rw [hrel.out,Bool.true_and] at hs;have pK:=Z_ (fun h=>Gm.out (Fb hlk h));have HW:=Z_ (HKV.out k hlk);clear cl;generalize xv[k]=x at *;obtain⟨vn,vp,vl,vs⟩:=x;simp only at l0 l1 l2 l3 lz HW;have HS:=Z_ hs;have hvt:Dn ⟨vn,vp,vl,vs⟩=(vp&&uN vl&&decide (0≤vs)&&decide (vs≤64)&&nameB vn.data.toList):=rfl;have P5:=Z_ (fun w hev hmv=>name.oG vn w (by unfold maxLen at lz;exact lz) hev hmv);obtain⟨lb,hlb⟩:∃ b,uN vl=b:=⟨_,rfl⟩;obtain⟨nb,hnb⟩:∃ b,nameB vn.data.toList=b:=⟨_,rfl⟩;rw [hlb,hnb] at hvt;rw [hnb] at P5;have Gp:=Z_ hvt;have W_:=Z_ hlb;clear hs hvt hlb hnb hrel;cases vp
   ·have HT2:=Z_ (pK.out (by rw [Gp.out];rfl))
    go_wp2_with fail
    go_ret
    exact⟨dO HT2.out.symm,hEr.alloc _⟩
   ·cases nb
    ·have HT2:=Z_ (pK.out (by rw [Gp.out,Bool.and_false]))
     go_wp2_with fail
     refine(P5.out _ (OC.out _ (hEr.alloc _)) (rC.out _ (hEr.alloc _))).mono ?_
     rintro e w2 ⟨rfl,hE2⟩;have hK:=(aJ.made _ _ _).ext hE2;have hKc:=hK.cell;have Uh:=hK.lt;have sH:=(hEr.alloc _).ext hE2;have hC2:=(hC.alloc _).ext hE2;have hown2:=(hown.alloc _).kept (jF hE2) (by simp);clear hown hC hE2 hEr hK;go_wp2_with fail
     go_ret
     exact⟨dO HT2.out.symm,sH⟩
    ·cases lb
     ·have HT2:=Z_ (pK.out (by rw [Gp.out];rfl))
      go_wp2_with fail
      refine(P5.out _ (OC.out _ (hEr.alloc _)) (rC.out _ (hEr.alloc _))).mono ?_
      rintro e w2 ⟨rfl,hE2⟩;have hK:=(aJ.made _ _ _).ext hE2;have hKc:=hK.cell;have Uh:=hK.lt;have sH:=(hEr.alloc _).ext hE2;have hC2:=(hC.alloc _).ext hE2;have hown2:=(hown.alloc _).kept (jF hE2) (by simp);clear hown hC hE2 hEr hK;go_wp2_with (go_at_call 57;refine(cE _ _).mono ?_;rintro e w' ⟨rfl,rfl⟩;rw [W_.out])
      go_ret
      exact⟨dO HT2.out.symm,sH⟩
     ·by_cases h0:vs<0
      ·have HT2:=Z_ (pK.out (by rw [Gp.out,decide_eq_false (show ¬ 0≤vs by omega)];rfl))
       go_wp2_with fail
       refine(P5.out _ (OC.out _ (hEr.alloc _)) (rC.out _ (hEr.alloc _))).mono ?_
       rintro e w2 ⟨rfl,hE2⟩;have hK:=(aJ.made _ _ _).ext hE2;have hKc:=hK.cell;have Uh:=hK.lt;have sH:=(hEr.alloc _).ext hE2;have hC2:=(hC.alloc _).ext hE2;have hown2:=(hown.alloc _).kept (jF hE2) (by simp);clear hown hC hE2 hEr hK;go_wp2_with (go_at_call 57;refine(cE _ _).mono ?_;rintro e w' ⟨rfl,rfl⟩;rw [W_.out])
       go_ret
       exact⟨dO HT2.out.symm,sH⟩
      ·by_cases h64:64<vs
       ·have HT2:=Z_ (pK.out (by rw [Gp.out,decide_eq_false (show ¬ vs≤64 by omega),Bool.and_false];rfl))
        go_wp2_with fail
        refine(P5.out _ (OC.out _ (hEr.alloc _)) (rC.out _ (hEr.alloc _))).mono ?_
        rintro e w2 ⟨rfl,hE2⟩;have hK:=(aJ.made _ _ _).ext hE2;have hKc:=hK.cell;have Uh:=hK.lt;have sH:=(hEr.alloc _).ext hE2;have hC2:=(hC.alloc _).ext hE2;have hown2:=(hown.alloc _).kept (jF hE2) (by simp);clear hown hC hE2 hEr hK;go_wp2_with (go_at_call 57;refine(cE _ _).mono ?_;rintro e w' ⟨rfl,rfl⟩;rw [W_.out])
        go_ret
        exact⟨dO HT2.out.symm,sH⟩
       ·have HT2:=Z_ (HS.out.trans (by rw [Gp.out,decide_eq_true (show 0≤vs by omega),decide_eq_true (show vs≤64 by omega)]))
        have hkey:=keyOf_string_mk (P:=Tryz.prog) (k:=9) Tryz.underlying9 lz;clear HS pK Gp;go_wp2_with fail
        refine(P5.out _ (OC.out _ (hEr.alloc _)) (rC.out _ (hEr.alloc _))).mono ?_
        rintro e w2 ⟨rfl,hE2⟩;have hK:=(aJ.made _ _ _).ext hE2;have hKc:=hK.cell;have Uh:=hK.lt;have sH:=(hEr.alloc _).ext hE2;have hC2:=(hC.alloc _).ext hE2;have hown2:=(hown.alloc _).kept (jF hE2) (by simp);clear hown hC hE2 hEr hK;have hkm:k<maxLen:=by omega
        go_wp2_with (first
          | (at_lookup;refine wpList_lookup_own_int _ rfl _ _ 126 rfl 9 3 .i64 yV Tryz.underlying126 Tryz.underlying3 (LN _) (w.heap.size+1) (k) D rfl hown2 _ _ rfl hkey ?_;intro cc hat hwc)
          | (at_mapUpdate;refine wpList_mapUpdate_own _ rfl _ _ _ 126 rfl 9 3 yV Tryz.underlying126 _ (w.heap.size+1) (k) D rfl hown2 (by omega) _ _ _ rfl rfl hkey _ [] (plainElem_int Tryz.underlying3 (wrap64_wf _)) ?_;intro w3 hown3 hgrow3)
          | (go_at_call 57;refine(cE _ _).mono ?_;rintro e w' ⟨rfl,rfl⟩;rw [W_.out]))
        have uG:=hC2.then (DV hgrow3)
        have RJ:=DW Ol.out (hown2.tidy yV) vn.data.toList (.lit (.int .i64 (wrap64 (cc+1))));rw [←HW.out] at RJ;clear hgrow3 hown2;go_wp2_with fail
        go_roundw
        case rel=>exact⟨k+1,_,by omega,by go_num,hown3,RJ,HT2.out,uG⟩
        case measure=>simp [intOf];omega
  ·obtain rfl:k=n1:=by omega
   have P5:=Z_ (HT.out (yX H1.out hrel.out));have hX:=HX.out.aU hC (by omega);have x2:=hX.cell 2;have hxl:=hX.lt;simp at x2
   clear hX hrel HT Gm HKV;go_wp2_with fail
   clear x2 hxl;go_loopw [52] (fun i wr=>∃ (j:Nat) (D:DataW Unit),j≤n2∧i=.int .i64 j∧wr.ownsMap Tryz.prog 9 (plainElem Tryz.prog 3) (w.heap.size+1) (k+j) D∧Ho D (K.take (k+j))∧Hid ((xp.take j).all xO=true)∧aB (fun b=>b=w.heap.size+1) w0 wr) (fun i _=>n2-(intOf i).toNat)
   case atStart=>exact⟨0,_,Nat.zero_le _,rfl,hown,Ol.out,by simp [Hid],hC⟩
   case round=>
    clear hown hC hEr hzr Ol;obtain⟨j,D,hj,rfl,hown,hmo,hrel,hC⟩:=hrel;have Ol:=Z_ hmo;have hEr:Ext w wr:=hEw.trans hC (fun i hi e=>by omega);have hzr:=hC.size;have zE:=Z_ (HX.out.aU hC (by omega));clear hmo;by_cases hlt2:j<n2
    ·have hki:(j:Int)<(n2:Int):=by omega
     have hlk:j<xp.length:=by rw [H2.out];exact hlt2
     obtain⟨bl,ol,rfl,hbl,cl⟩:=HA.out.2 j hlk;have av8:=Nat.lt_of_lt_of_le hbl hEr.size;obtain⟨l0,l1,⟨pa,pc,l2,p1,p2,p3⟩,l3,l4,l5,lz⟩:=jJ.ext hEr hbl cl;have hs:=BA xO xp j hlk;rw [hrel.out,Bool.true_and] at hs;have pK:=Z_ (fun h=>HF2.out (Fb hlk h));have HW:=Z_ (HKP.out j hlk);clear cl;generalize xp[j]=x at *;obtain⟨pn,pp,pl,pw,pg,pv⟩:=x;simp only at l0 l1 l2 l3 l4 l5 lz HW p1 p2;have HS:=Z_ hs;have U7:=Z_ p1;obtain⟨np,hnp⟩:∃ n,pl.length=n:=⟨_,rfl⟩;have hvt:xO ⟨pn,pp,pl,pw,pg,pv⟩=(pp&&decide (pl.length≤5)&&uN pw&&uN pv&&(pg || pv == 0)&&pl.all uN&&nameB pn.data.toList):=rfl;have I_:=Z_ (fun w hev hmv=>name.oG pn w (by unfold maxLen at lz;exact lz) hev hmv);rw [hnp] at hvt l2 p2;have AL:=Z_ hnp;obtain⟨lw,hlw⟩:∃ b,uN pw=b:=⟨_,rfl⟩
     obtain⟨lg,ZP⟩:∃ b,uN pv=b:=⟨_,rfl⟩;obtain⟨nb,hnb⟩:∃ b,nameB pn.data.toList=b:=⟨_,rfl⟩;rw [hlw,ZP,hnb] at hvt;rw [hnb] at I_;have Gp:=Z_ hvt;have HLW:=Z_ hlw;have HLG:=Z_ ZP;clear hs hvt hlw ZP hnb hnp p1 hrel;unfold maxLen at p3;cases pp
     ·have HT2:=Z_ (pK.out (by rw [Gp.out];rfl))
      go_wp2_with fail
      go_ret
      exact⟨dO HT2.out.symm,hEr.alloc _⟩
     ·cases nb
      ·have HT2:=Z_ (pK.out (by rw [Gp.out,Bool.and_false]))
       go_wp2_with fail
       refine(I_.out _ (OC.out _ (hEr.alloc _)) (rC.out _ (hEr.alloc _))).mono ?_
       rintro e w2 ⟨rfl,hE2⟩;have hK:=(aJ.made _ _ _).ext hE2;have hKc:=hK.cell;have Uh:=hK.lt;have sH:=(hEr.alloc _).ext hE2;have hC2:=(hC.alloc _).ext hE2;have hown2:=(hown.alloc _).kept (jF hE2) (by simp);have HP2:=Z_ (U7.out.mono (Nat.le_trans (by simp) hE2.size) (fun b o x hb h=>jc.ext (((aB.refl _ _).alloc _).ext hE2) hb h));clear hown hC hE2 hEr hK;go_wp2_with fail
       go_ret
       exact⟨dO HT2.out.symm,sH⟩
      ·by_cases h5:5<np
       ·have HT2:=Z_ (pK.out (by rw [Gp.out,decide_eq_false (show ¬ np≤5 by omega)];rfl))
        have ZZ:(5:Int)<(np:Int):=by omega
        go_wp2_with fail
        refine(I_.out _ (OC.out _ (hEr.alloc _)) (rC.out _ (hEr.alloc _))).mono ?_
        rintro e w2 ⟨rfl,hE2⟩;have hK:=(aJ.made _ _ _).ext hE2;have hKc:=hK.cell;have Uh:=hK.lt;have sH:=(hEr.alloc _).ext hE2;have hC2:=(hC.alloc _).ext hE2;have hown2:=(hown.alloc _).kept (jF hE2) (by simp);have HP2:=Z_ (U7.out.mono (Nat.le_trans (by simp) hE2.size) (fun b o x hb h=>jc.ext (((aB.refl _ _).alloc _).ext hE2) hb h));clear hown hC hE2 hEr hK;go_wp2_with fail
        go_ret
        exact⟨dO HT2.out.symm,sH⟩
       ·have ZZ:¬ (5:Int)<(np:Int):=by omega
        have RN:=Z_ (Gp.out.trans (by rw [decide_eq_true (show np≤5 by omega)]));clear Gp;cases lw
        ·have HT2:=Z_ (pK.out (by rw [RN.out];rfl))
         go_wp2_with fail
         refine(I_.out _ (OC.out _ (hEr.alloc _)) (rC.out _ (hEr.alloc _))).mono ?_
         rintro e w2 ⟨rfl,hE2⟩;have hK:=(aJ.made _ _ _).ext hE2;have hKc:=hK.cell;have Uh:=hK.lt;have sH:=(hEr.alloc _).ext hE2;have hC2:=(hC.alloc _).ext hE2;have hown2:=(hown.alloc _).kept (jF hE2) (by simp);have HP2:=Z_ (U7.out.mono (Nat.le_trans (by simp) hE2.size) (fun b o x hb h=>jc.ext (((aB.refl _ _).alloc _).ext hE2) hb h));clear hown hC hE2 hEr hK;go_wp2_with (go_at_call 57;refine(cE _ _).mono ?_;rintro e w' ⟨rfl,rfl⟩;first|rw [HLW.out]|rw [HLG.out])
         go_ret
         exact⟨dO HT2.out.symm,sH⟩
        ·cases lg
         ·have HT2:=Z_ (pK.out (by rw [RN.out];rfl))
          go_wp2_with fail
          refine(I_.out _ (OC.out _ (hEr.alloc _)) (rC.out _ (hEr.alloc _))).mono ?_
          rintro e w2 ⟨rfl,hE2⟩;have hK:=(aJ.made _ _ _).ext hE2;have hKc:=hK.cell;have Uh:=hK.lt;have sH:=(hEr.alloc _).ext hE2;have hC2:=(hC.alloc _).ext hE2;have hown2:=(hown.alloc _).kept (jF hE2) (by simp);have HP2:=Z_ (U7.out.mono (Nat.le_trans (by simp) hE2.size) (fun b o x hb h=>jc.ext (((aB.refl _ _).alloc _).ext hE2) hb h));clear hown hC hE2 hEr hK;go_wp2_with (go_at_call 57;refine(cE _ _).mono ?_;rintro e w' ⟨rfl,rfl⟩;first|rw [HLW.out]|rw [HLG.out])
          go_ret
          exact⟨dO HT2.out.symm,sH⟩
         ·have hgv:(pg || pv == 0)=false∨(pg || pv == 0)=true:=by cases (pg || pv == 0)<;>simp
          rcases hgv with hgv|hgv
          ·have HT2:=Z_ (pK.out (by rw [RN.out,hgv];rfl))
           cases pg
           ·have hv0:(pv == 0)=false:=hgv
            have hv1:¬ pv=0:=by simpa using hv0
            have hv2:(pv != 0)=true:=by simpa using hv1
            clear hgv;go_wp2_with fail
            refine(I_.out _ (OC.out _ (hEr.alloc _)) (rC.out _ (hEr.alloc _))).mono ?_
            rintro e w2 ⟨rfl,hE2⟩;have hK:=(aJ.made _ _ _).ext hE2;have hKc:=hK.cell;have Uh:=hK.lt;have sH:=(hEr.alloc _).ext hE2;have hC2:=(hC.alloc _).ext hE2;have hown2:=(hown.alloc _).kept (jF hE2) (by simp);have HP2:=Z_ (U7.out.mono (Nat.le_trans (by simp) hE2.size) (fun b o x hb h=>jc.ext (((aB.refl _ _).alloc _).ext hE2) hb h));clear hown hC hE2 hEr hK;go_wp2_with (go_at_call 57;refine(cE _ _).mono ?_;rintro e w' ⟨rfl,rfl⟩;first|rw [HLW.out]|rw [HLG.out])
            go_ret
            exact⟨dO HT2.out.symm,sH⟩
           ·cases hgv
          ·have Yt:=Z_ (RN.out.trans (by rw [hgv];show (pl.all uN&&true)=_;rw [Bool.and_true]:_=pl.all uN))
           clear RN
           have ae7:pg=true∨(pg=false∧pv=0):=by
            cases pg
            ·right;exact⟨rfl,by simpa using hgv⟩
            ·left;rfl
           have hkey:=keyOf_string_mk (P:=Tryz.prog) (k:=9) Tryz.underlying9 lz;clear hgv;rcases ae7 with rfl|⟨rfl,rfl⟩
           all_goals
            go_wp2_with fail
            refine(I_.out _ (OC.out _ (hEr.alloc _)) (rC.out _ (hEr.alloc _))).mono ?_
            rintro e w2 ⟨rfl,hE2⟩;have hK:=(aJ.made _ _ _).ext hE2;have hKc:=hK.cell;have Uh:=hK.lt;have sH:=(hEr.alloc _).ext hE2;have hC2:=(hC.alloc _).ext hE2;have hown2:=(hown.alloc _).kept (jF hE2) (by simp);have HP2:=Z_ (U7.out.mono (Nat.le_trans (by simp) hE2.size) (fun b o x hb h=>jc.ext (((aB.refl _ _).alloc _).ext hE2) hb h));clear hown hC hE2 hEr hK;go_wp2_with (go_at_call 57;refine(cE _ _).mono ?_;rintro e w' ⟨rfl,rfl⟩;first|rw [HLW.out]|rw [HLG.out])
            clear l0 l1 l2 l3 l4 l5;go_loop [96] (fun i=>∃ q:Nat,q≤np∧i=.int .i64 q∧Hid ((pl.take q).all uN=true)) (fun i=>np-(intOf i).toNat)
            case atStart=>exact⟨0,Nat.zero_le _,rfl,by simp [Hid]⟩
            case round=>
             obtain⟨q,hq,rfl,Xa⟩:=hrel;by_cases hlt3:q<np
             ·have hqi:(q:Int)<(np:Int):=by omega
              have hlq:q<pl.length:=by rw [AL.out];exact hlt3
              obtain⟨bp,op,rfl,hbp,cp⟩:=HP2.out q hlq;unfold jc at cp;rw [Nat.mul_one] at cp;have hs:=BA uN pl q hlq;rw [Xa.out,Bool.true_and] at hs;have HB2:=Z_ (fun h=>pK.out (Yt.out.trans (Fb hlq h)));generalize pl[q]=z at *;have HS2:=Z_ hs;obtain⟨lz,hlz⟩:∃ b,uN z=b:=⟨_,rfl⟩;have HLZ:=Z_ hlz;clear hs hlz;cases lz
              ·have HT2:=Z_ (HB2.out HLZ.out)
               go_wp2_with (go_at_call 57;refine(cE _ _).mono ?_;rintro e w' ⟨rfl,rfl⟩;rw [HLZ.out])
               go_ret
               exact⟨dO HT2.out.symm,sH⟩
              ·have HT2:=Z_ (HS2.out.trans HLZ.out)
               go_wp2_with (go_at_call 57;refine(cE _ _).mono ?_;rintro e w' ⟨rfl,rfl⟩;rw [HLZ.out])
               go_round
               case rel=>exact⟨q+1,by omega,by go_num,HT2.out⟩
               case measure=>simp [intOf];omega
             ·obtain rfl:q=np:=by omega
              have HT2:=Z_ (HS.out.trans (Yt.out.trans (yX AL.out Xa.out)));clear HS pK Yt;have hkm:k+j<maxLen:=by omega
              go_wp2_with (first
              | (at_lookup;refine wpList_lookup_own_int _ rfl _ _ 126 rfl 9 3 .i64 yV Tryz.underlying126 Tryz.underlying3 (LN _) (w.heap.size+1) (k+j) D rfl hown2 _ _ rfl hkey ?_;intro cc hat hwc)
              | (at_mapUpdate;refine wpList_mapUpdate_own _ rfl _ _ _ 126 rfl 9 3 yV Tryz.underlying126 _ (w.heap.size+1) (k+j) D rfl hown2 (by omega) _ _ _ rfl rfl hkey _ [] (plainElem_int Tryz.underlying3 (wrap64_wf _)) ?_;intro w3 hown3 hgrow3))
              have uG:=hC2.then (DV hgrow3)
              have RJ:=DW Ol.out (hown2.tidy yV) pn.data.toList (.lit (.int .i64 (wrap64 (cc+1))));rw [←HW.out] at RJ;clear hgrow3 hown2;go_wp2_with fail
              go_roundw
              case rel=>exact⟨j+1,_,by omega,by go_num,hown3,RJ,HT2.out,uG⟩
              case measure=>simp [intOf];omega
    ·obtain rfl:j=n2:=by omega
     have Dp:=Z_ (P5.out (yX H2.out hrel.out));have hX:=zE.out;have x0:=hX.cell 0;have x1:=hX.cell 1;have x2:=hX.cell 2;have hxl:=hX.lt;simp at x0
     simp at x1
     simp at x2
     clear hX;obtain⟨_,_,hdis⟩:=Ol.out;have hKt:K.take (k+j)=K:=List.take_of_length_le (by rw [Yl.out];exact Nat.le_refl _);rw [hKt,Yl.out] at hdis;have HD:=Z_ hdis;clear hdis hKt;cases A1
     ·have HT2:=Z_ (show B=false by rw [Dp.out];rfl)
      go_wp2_with fail
      refine(JU.out _ (OC.out _ hEr) (rC.out _ hEr)).mono ?_
      rintro e w2 ⟨rfl,hE2⟩;go_wp2_with fail
      go_ret
      exact⟨dO HT2.out.symm,hEr.ext hE2⟩
     ·go_wp2_with fail
      refine(JU.out _ (OC.out _ hEr) (rC.out _ hEr)).mono ?_
      rintro e w2 ⟨rfl,hE2⟩;have Hq:=zE.out.ext hE2;have y1:=Hq.cell 1;have y2:=Hq.cell 2;have hyl:=Hq.lt;simp at y1
      simp at y2
      have hown2:=hown.kept (jF hE2) (by simp);have hlen:=fun ty=>hown2.len (P:=Tryz.prog) Tryz.underlying126 ty
      have ZI:=Z_ (hEr.ext hE2);have av4:(k:Int)+(j:Int)≤9223372036854775806:=by omega
      clear x0 x1 x2 Hq hown hown2 hE2 hC hEr;by_cases h20:k+j≤20
      ·have a3_:((k+j:Nat):Int)≤20:=by omega
       have av9:(k:Int)+(j:Int)≤20:=by omega
       obtain⟨sz,hsz⟩:∃ n,Maps.size D=n:=⟨_,rfl⟩;rw [hsz] at HD hlen;by_cases hs:sz=k+j
       ·have HT2:=Z_ (show B=true by rw [Dp.out,HD.out,decide_eq_true h20,decide_eq_true hs];rfl)
        subst hs;go_wp2_with fail
        go_ret
        exact⟨dO HT2.out.symm,ZI.out⟩
       ·have HT2:=Z_ (show B=false by rw [Dp.out,HD.out,decide_eq_false hs,Bool.and_false])
        have hs1:¬ (sz:Int)=(k:Int)+(j:Int):=by omega
        have hs2:((sz:Int) == (k:Int)+(j:Int))=false:=by rw [beq_eq_false_iff_ne];exact hs1
        go_wp2_with fail
        go_ret
        exact⟨dO HT2.out.symm,ZI.out⟩
      ·have av9:¬ (k:Int)+(j:Int)≤20:=by omega
       have HT2:=Z_ (show B=false by rw [Dp.out,decide_eq_false h20];rfl);go_wp2_with fail
       go_ret
       exact⟨dO HT2.out.symm,ZI.out⟩
end face
end Go.Proofs.YtpcihajmcejliacGreatDoor
