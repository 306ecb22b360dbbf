/- The walk of the program's parser: statements. -/
import Derived.Test.YtpcihajmcejliacGreatDoorSyn5o
namespace Go.Proofs.YtpcihajmcejliacGreatDoor
open Go.RowKit
namespace bu
set_option maxRecDepth 100000 in
set_option maxHeartbeats 4000000 in
theorem wO {n:Nat} (ih:∀ m,m≤n→Good m) {W w:World} {S E:Nat} {l:List Tk} (h:bz W w S E l) (hm:cE W) (hne:bJ (n+1) (.stat) l≠.out) :
  Calls Tryz.prog 276 #[.pointer (some ⟨S,0,none⟩)] w (eC (VN w.heap.size) W w S E (bJ (n+1) (.stat) l)):=by
 obtain⟨T,hT⟩:∃ T,bJ (n+1) (.stat) l=T:=⟨_,rfl⟩;rw [hT] at hne ⊢;simp only [bJ] at hT;have HT:=Z_ hT;have h_:=Z_ hne;have HM:=Z_ hm;have aA:Hid (At W w (w.alloc (.cells #[.int .i64 0,.string ⟨#[]⟩,.int .i64 0,.slice none 0 0] 24)) S E w.heap.size l):=Z_ (At.start h);obtain⟨A,hA⟩:∃ A,w.heap.size=A:=⟨_,rfl⟩;rw [hA] at aA;have Pj:S<A:=by have:=h.lt;omega
 clear h hm hne hT;go_enter Tryz.func276,Tryz.ntmps276
 go_upto_region 1 with (fail)
 generalize w.alloc (.cells #[.int .i64 0,.string ⟨#[]⟩,.int .i64 0,.slice none 0 0] 24)=u0 at *;have hlen:=EJ aA.out.pr;have HLEN:=Z_ hlen;clear hlen;have HB:=Z_ ((aA.out.alloc (.cells #[.int .i64 0,.string ⟨#[]⟩,.int .i64 0,.slice none 0 0] 24)).U7 (aC.made u0 _ _) aA.out.lt);obtain⟨N,hN⟩:∃ N,u0.heap.size=N:=⟨_,rfl⟩;rw [hN] at HB;have DK:=aA.out.lt;rw [hN] at DK;clear aA;have aA:=Z_ HB.out.at;go_upto_region 5 with (fail)
 generalize u0.alloc (.cells #[.int .i64 0,.string ⟨#[]⟩,.int .i64 0,.slice none 0 0] 24)=u1 at *
 have HH:=Z_ (uq (aA.out.pr.alloc (.cells #[.string rH,.string p_] 9)) u1.heap.size [rH,p_] 2 2 rfl (by decide) (fun j hj=>by
  have hj2:j<2:=by simpa using hj
  obtain rfl|rfl:j=0∨j=1:=by omega
  ·exact(aC.made u1 #[.string rH,.string p_] 9).cell 0
  ·exact(aC.made u1 #[.string rH,.string p_] 9).cell 1) (by simp))
 have eP:=(aB.refl (fun _=>False) u1).alloc (.cells #[.string rH,.string p_] 9);replace HB:=Z_ (HB.out.extend eP);replace aA:=Z_ HB.out.at;clear eP;generalize fK l [rH,p_]=R at *;go_wp2_with fail
 refine HH.out.mono ?_
 rintro e u2 ⟨rfl,hE⟩;replace HB:=Z_ (HB.out.extend hE);replace aA:=Z_ HB.out.at;clear hE HH;cases R with
 | false=>
  have HT0:=HT.out;clear HT;simp only [Bool.false_eq_true,↓reduceIte] at HT0;have HT:=Z_ HT0;clear HT0;have HH:=Z_ (dh aA.out.pr ZL);have gu:=Z_ (fun (h:fK l [ZL]=true)=>bF.aV h);generalize fK l [ZL]=R at *;go_wp2_with fail
  refine HH.out.mono ?_
  rintro e u3 ⟨rfl,hC,hP⟩;cases R with
  | false=>
   replace hP:bz W u3 S E l:=by simpa using hP
   have HT0:=HT.out;clear HT;simp only [Bool.false_eq_true,↓reduceIte] at HT0;have HT:=Z_ HT0;clear HT0;replace HB:=Z_ (HB.out.call hC hP (Nat.le_refl _));replace aA:=Z_ HB.out.at;clear hC hP HH gu;have HH:=Z_ (dh aA.out.pr ZM);have gu:=Z_ (fun (h:fK l [ZM]=true)=>bF.aV h);generalize fK l [ZM]=R at *;go_wp2_with fail
   refine HH.out.mono ?_
   rintro e u4 ⟨rfl,hC,hP⟩;cases R with
   | false=>
    replace hP:bz W u4 S E l:=by simpa using hP
    have HT0:=HT.out;clear HT;simp only [Bool.false_eq_true,↓reduceIte] at HT0;have HT:=Z_ HT0;clear HT0;replace HB:=Z_ (HB.out.call hC hP (Nat.le_refl _));replace aA:=Z_ HB.out.at;clear hC hP HH gu;have HH:=Z_ (dh aA.out.pr Aa);have gu:=Z_ (fun (h:fK l [Aa]=true)=>bF.aV h);generalize fK l [Aa]=R at *;go_wp2_with fail
    refine HH.out.mono ?_
    rintro e u5 ⟨rfl,hC,hP⟩;cases R with
    | false=>
     replace hP:bz W u5 S E l:=by simpa using hP
     have HT0:=HT.out;clear HT;simp only [Bool.false_eq_true,↓reduceIte] at HT0;have HT:=Z_ HT0;clear HT0;replace HB:=Z_ (HB.out.call hC hP (Nat.le_refl _));replace aA:=Z_ HB.out.at;clear hC hP HH gu;have HH:=Z_ (dh aA.out.pr OL);have gu:=Z_ (fun (h:fK l [OL]=true)=>bF.aV h);generalize fK l [OL]=R at *;go_wp2_with fail
     refine HH.out.mono ?_
     rintro e u6 ⟨rfl,hC,hP⟩;cases R with
     | false=>
      replace hP:bz W u6 S E l:=by simpa using hP
      have HT0:=HT.out;clear HT;simp only [Bool.false_eq_true,↓reduceIte] at HT0;have HT:=Z_ HT0;clear HT0;replace HB:=Z_ (HB.out.call hC hP (Nat.le_refl _));replace aA:=Z_ HB.out.at;clear hC hP HH gu;have HH:=Z_ (dh aA.out.pr ZN);have gu:=Z_ (fun (h:fK l [ZN]=true)=>bF.aV h);generalize fK l [ZN]=R at *;go_wp2_with fail
      refine HH.out.mono ?_
      rintro e u7 ⟨rfl,hC,hP⟩;cases R with
      | false=>
       replace hP:bz W u7 S E l:=by simpa using hP
       have HT0:=HT.out;clear HT;simp only [Bool.false_eq_true,↓reduceIte] at HT0;have HT:=Z_ HT0;clear HT0;replace HB:=Z_ (HB.out.call hC hP (Nat.le_refl _));replace aA:=Z_ HB.out.at;clear hC hP HH gu;have HH:=Z_ (dh aA.out.pr vP);have gu:=Z_ (fun (h:fK l [vP]=true)=>bF.aV h);generalize fK l [vP]=R at *;go_wp2_with fail
       refine HH.out.mono ?_
       rintro e u8 ⟨rfl,hC,hP⟩;cases R with
       | false=>
        replace hP:bz W u8 S E l:=by simpa using hP
        have HT0:=HT.out;clear HT;simp only [Bool.false_eq_true,↓reduceIte] at HT0;have HT:=Z_ HT0;clear HT0;replace HB:=Z_ (HB.out.call hC hP (Nat.le_refl _));replace aA:=Z_ HB.out.at;clear hC hP HH gu;have HN:=Z_ (qB aA.out.pr HM.out);go_wp2_with fail
        refine HN.out.mono ?_
        rintro e u9 hr;obtain⟨hC,⟨lb,hp,rfl⟩|⟨s9,l9,v,hp,rfl,⟨rfl,hs⟩,hP⟩⟩:=hr.cases (qC _)
        ·have HF:=Z_ (Out.aF HT.out hp)
         have HC:=Z_ (aA.out.aK.then hC);clear hr hp hC;go_wp2_with fail
         exact⟨rfl,eC.fails HC.out HF.out⟩
        replace HT:=Z_ (Out.aG HT.out hp);have ah3:=Z_ (bF.gW hp);replace HB:=Z_ (HB.out.call hC hP (by have:=bF.gW hp;omega));replace aA:=Z_ HB.out.at;have mM:=Z_ hs;clear hr hp hC hP HN;clear hs;have iE:=HB.out.lt;obtain⟨B,hB⟩:∃ B,u9.heap.size=B:=⟨_,rfl⟩;rw [hB] at iE;have HN:=Z_ (ih n (Nat.le_refl _) (.place s9) _ _ aA.out.pr HM.out rfl mM.out (Out.bh HT.out h_.out));go_wp2_with fail
        refine HN.out.mono ?_
        rintro e u10 hr;obtain⟨hC,⟨lb,hp,rfl⟩|⟨x10,l10,v10,hp,rfl,hv,hP⟩⟩:=hr.cases (Out.bh HT.out h_.out)
        ·have HF:=Z_ (Out.aF HT.out hp)
         have HC:=Z_ (aA.out.aK.then hC);clear hr hp hC;go_wp2_with fail
         exact⟨rfl,eC.fails HC.out HF.out⟩
        replace HT:=Z_ (Out.aG HT.out hp);have Ym:=Z_ ((show _ from bF.dO _ _ _ _ _ hp));replace HB:=Z_ (HB.out.call hC hP (by have:=bF.dO _ _ _ _ _ hp;omega));replace aA:=Z_ HB.out.at;obtain⟨Pn,Po,Pq,Pv,Px,Py,rfl⟩:=cH hv;have Dj:=Z_ hv;have Gj:u9.heap.size≤u10.heap.size:=hC.size;clear hr hp hC hP hv HN;rw [hB] at Dj Gj;have HG:=Z_ (lW Dj.out (by omega:N+1≤B) Gj (c:=#[.int .i64 Pn,.string Po,.int .i64 Pq,.slice Pv Px Py]) rfl);have eP:=(aB.refl (fun _=>False) u10).alloc (.cells #[.int .i64 Pn,.string Po,.int .i64 Pq,.slice Pv Px Py] 24);replace HB:=Z_ (HB.out.extend eP);replace aA:=Z_ HB.out.at;clear eP;go_wp2_with fail
        refine(dH _ _ _ _ _ _ _).mono ?_
        rintro e u11 ⟨rfl,hE⟩;replace HB:=Z_ (HB.out.extend hE);replace aA:=Z_ HB.out.at;replace HG:=Z_ (HG.out.aK fP hE (fun _ h=>h.elim));have n0:=HB.out.nd.cell;have nf:=HB.out.nd.frozen;have nl:=HB.out.nd.lt;go_upto_region 3 with (fail)
        replace HB:=Z_ (HB.out.put (kind:=8) (text:=⟨#[]⟩) (num:=0) HG.out (by simp only [List.length_singleton];have:=HLEN.out;have:=ah3.out;have:=Ym.out;omega));replace aA:=Z_ HB.out.at;clear n0 nf nl hE HG;generalize (((u11.setCell ⟨N,0,none⟩ (.int .i64 8)).setCell ⟨N,1,none⟩ (.string ⟨#[]⟩)).setCell ⟨N,2,none⟩ (.int .i64 0)).setCell ⟨N,3,none⟩ (.slice (some ⟨u10.heap.size,0,none⟩) 1 1)=v11 at *;have HN:=Z_ (b_ (aA.out.pr.alloc (.cells #[.string Nh] 9)) v11.heap.size 1 Nh ((aC.made v11 #[.string Nh] 9).cell 0));have eP:=(aB.refl (fun _=>False) v11).alloc (.cells #[.string Nh] 9);replace HB:=Z_ (HB.out.extend eP);replace aA:=Z_ HB.out.at;clear eP;go_wp2_with fail
        refine HN.out.mono ?_
        rintro e u12 hr;obtain⟨hC,⟨lb,hp,rfl⟩|⟨_,l12,_,hp,rfl,rfl,hP⟩⟩:=hr.cases (di _ _)
        ·have HF:=Z_ (Out.aF HT.out hp)
         have HC:=Z_ (aA.out.aK.then hC);clear hr hp hC;go_wp2_with fail
         exact⟨rfl,eC.fails HC.out HF.out⟩
        replace HT:=Z_ (Out.aG HT.out hp);have ah6:=Z_ (bF.aZ hp);replace HB:=Z_ (HB.out.call hC hP (by have:=bF.aZ hp;omega));replace aA:=Z_ HB.out.at;clear hr hp hC hP HN;go_upto_region 4 with (fail)
        refine aj [3,4,5,7] (fun i v _=>v=([.pointer (some ⟨N,3,none⟩),(.slice (some ⟨u10.heap.size,0,none⟩) 1 1),.pointer (some ⟨S,0,none⟩),undef,undef,undef,.pointer (some ⟨N,3,none⟩),undef]:List Value).getD i undef) (fJ W w S E A N l12 8 ⟨#[]⟩ 0 (.slice (some ⟨u10.heap.size,0,none⟩) 1 1) [x10] (bJ n .expr l12)) (fun _ _=>True) (frame:=?ES) (fun x=>?rK) mixed (by kernel_rfl) (by kernel_rfl) (fun _ _ _ _ h _=>h) ?ET ?EU ?rL
        case rK=>
         simp only [chain.aN,chain.fill,chain.bf,chain.aY,jW,jX,jY,jZ,kz,kC,kD,kE,kF];exact rfl
        case ET=>exact HB.out.extend (aB.refl _ _).drew
        case EU=>
         iterate 8 (refine ak.cons (fun x vs u hF hm hb hd K' hK'=>?_) ?_;rotate_left)
         exact ak.nil
         ·have HF:=Z_ hF;clear hd hm hb hF;go_simp;exact hK'.out _ _ _ rfl trivial ⟨rfl,HF.out⟩
         ·have y0:x 16=.pointer (some ⟨N,3,none⟩):=(D_ hd 0 :);have hc:=hF.cell (by have:=hb 2 _ (by decide) rfl (by kernel_rfl);omega);have HF:=Z_ hF;clear hd hm hb hF;go_simp;exact hK'.out _ _ _ (by simp only [y0];rfl) trivial ⟨rfl,HF.out⟩
         ·have HF:=Z_ hF;clear hd hm hb hF;go_simp;exact hK'.out _ _ _ rfl trivial ⟨rfl,HF.out⟩
         ·have y0:x 18=.pointer (some ⟨S,0,none⟩):=(D_ hd 2 :);obtain rfl:=kS hm;have HF:=Z_ (show iU _ _ _ _ _ _ _ _ _ _ _ _ _ _ from hF);clear hd hm hb hF;have jM:=Z_ (ih n (Nat.le_refl _) .expr _ _ HF.out.pr HM.out rfl trivial (Out.bh HT.out h_.out));go_simp;refine jM.out.mono ?_
          rintro e u2 hr;obtain⟨hC,⟨lb,hp,rfl⟩|⟨xn,ln,v,hp,rfl,hv,hP⟩⟩:=hr.cases (Out.bh HT.out h_.out)
          ·have HE:=Z_ (Out.aF HT.out hp)
           have HC:=Z_ (HF.out.aK.then hC);clear hr hp hC hK' jM;go_wp2_with fail
           exact⟨rfl,eC.fails HC.out HE.out⟩
          ·exact hK'.out _ _ _ (by simp only [y0];rfl) trivial (fQ HF.out hC hp hv hP (bF.dO _ _ _ _ _ hp))
         ·obtain⟨v0,rfl⟩:=mD hm
          have y0:x 19=v0:=((D_ hd 3) 19 (by kernel_rfl) :);have hcl:∃ a b c d,v0=.agg #[a,b,c,d]:=by obtain⟨xn,ln,_,_,_,hx⟩:=hF;obtain⟨a,b,c,d,h,_⟩:=bD hx;exact⟨a,b,c,d,h⟩
          obtain⟨a0,b0,c0,d0,rfl⟩:=hcl;have HF:=Z_ hF;clear hd hm hb hF;go_simp;exact hK'.out _ _ _ (by simp only [y0];rfl) trivial (dU HF.out rfl)
         ·obtain⟨v0,v1,rfl⟩:=tN hm
          have y0:x 17=(.slice (some ⟨u10.heap.size,0,none⟩) 1 1):=(D_ hd 1 :);have y1:x 20=v1:=((D_ hd 4) 20 (by kernel_rfl) :);have hF2:=hF;obtain⟨xn,ln,hT1,aO,hfew,hx,gg,rfl,hgb,hgr⟩:=hF2;obtain⟨us,hu1,ho,hu3⟩:=aO.grow.ex;have hlt:=aO.lt;obtain⟨iW,iY,hz0,hz1,hz2⟩:=aW eU;refine wp_append_lies _ _ _ 22 rfl (N+1) 24 iW (.agg #[.int .i64 0,.string ⟨#[]⟩,.int .i64 0,.slice none 0 0]) 4 56 Tryz.underlying22 iY hz0 hz1 hz2 rfl (by decide) (.slice (some ⟨u10.heap.size,0,none⟩) 1 1) [x10].length (us.flatMap fun u=>u.cells.toList) y0 ho ⟨gg,0,none⟩ 1 1 v0.cells.toList y1 (by rw [Array.length_toList,fB hx]) ?_ (by obtain⟨a,b,c,d,e,e2,p1,p2,p3,p4⟩:=bD hx;rw [e2];intro q hq;simp at hq;rcases hq with rfl|rfl|rfl|rfl<;>assumption) (by decide) (by unfold maxLen;omega) (by omega) (by omega) u.heap.size rfl ?_
          ·intro j q hj;have e:(⟨gg,0,none⟩:Addr).add j=⟨gg,j,none⟩:=(by unfold Addr.add;split<;>simp_all);rw [e,hgb.cell];simpa using hj
          ·intro g9 c9 w9 ju iZ kU uI
           exact hK'.out _ _ _ rfl trivial (push_append hF hu1 hu3 ju iZ kU)
         ·have HF:=Z_ hF;clear hd hm hb hF;go_simp;exact hK'.out _ _ _ rfl trivial ⟨rfl,HF.out⟩
         ·obtain⟨v0,v1,v2,rfl⟩:=zF hm
          have y0:x 22=.pointer (some ⟨N,3,none⟩):=(D_ hd 6 :);have y1:x 21=v2:=((D_ hd 5) 21 (by kernel_rfl) :);have hF2:=hF;obtain⟨xn,ln,hT1,aO,gg,cc,rfl⟩:=hF2;have hc:=aO.nd.cell 3;have hf:=aO.nd.frozen 3;have hl:=aO.lt;simp at hc
          have HF:=Z_ hF;clear hd hm hb hF aO hT1;go_simp;exact hK'.out _ _ undef (by simp only [y0,y1];rfl) trivial (dV HF.out)
        case rL=>
         intro x vs w9 hl hF hk;obtain⟨v0,v1,v2,v3,rfl⟩:=zG hl
         obtain⟨xna,lna,hT1,jV⟩:=hF;clear hk hl;replace HT:=Z_ (Out.aG HT.out hT1.out);replace HB:=Z_ jV;replace aA:=Z_ HB.out.at;clear hT1 jV;have HT0:=HT.out;clear HT;unfold kN at HT0;have HT:=Z_ HT0;clear HT0;have HN:=Z_ (b_ (aA.out.pr.alloc (.cells #[.string cZ] 9)) w9.heap.size 1 cZ ((aC.made w9 #[.string cZ] 9).cell 0));have eP:=(aB.refl (fun _=>False) w9).alloc (.cells #[.string cZ] 9);replace HB:=Z_ (HB.out.extend eP);replace aA:=Z_ HB.out.at;clear eP;go_wp2_with fail
         refine HN.out.mono ?_
         rintro e u13 hr;obtain⟨hC,⟨lb,hp,rfl⟩|⟨_,l13,_,hp,rfl,rfl,hP⟩⟩:=hr.cases (di _ _)
         ·have HF:=Z_ (Out.aF HT.out hp)
          have HC:=Z_ (aA.out.aK.then hC);clear hr hp hC;go_wp2_with fail
          exact⟨rfl,eC.fails HC.out HF.out⟩
         replace HT:=Z_ (Out.aG HT.out hp);have Qy:=Z_ (bF.aZ hp);replace HB:=Z_ (HB.out.call hC hP (by have:=bF.aZ hp;omega));replace aA:=Z_ HB.out.at;clear hr hp hC hP HN;obtain⟨ra,rn,rc,hrow⟩:=HB.out.slice3
         first|subst hrow|clear hrow
         have c0:=HB.out.nd.cell 0;have c1:=HB.out.nd.cell 1;have c2:=HB.out.nd.cell 2;have c3:=HB.out.nd.cell 3;have r0:=HB.out.res.cell;have rf:=HB.out.res.frozen;have rl:=HB.out.res.lt;unfold bK at r0;simp at c0 c1 c2 c3
         go_wp2_with fail
         refine bG rfl rfl rfl ((((HB.out.res.set 0 _).set 1 _).set 2 _).set 3 _) Tryz.underlying24 rfl (by kernel_rfl) ?_
         exact HB.out.ret (by decide) (HT.out.symm) _ _ _ _
       | true=>
        have Qy:=Z_ (gu.out rfl);replace hP:bz W u8 S E l.tail:=by simpa using hP
        have HT0:=HT.out;clear HT;simp only [↓reduceIte] at HT0;have HT:=Z_ HT0;clear HT0;replace HB:=Z_ (HB.out.call hC hP (by have:=gu.out rfl;omega));replace aA:=Z_ HB.out.at;clear hC hP HH gu;have iE:=HB.out.lt;obtain⟨B,hB⟩:∃ B,u8.heap.size=B:=⟨_,rfl⟩;rw [hB] at iE;have HN:=Z_ (ih n (Nat.le_refl _) (.expr) _ _ aA.out.pr HM.out rfl trivial (Out.bh HT.out h_.out));go_wp2_with fail
        refine HN.out.mono ?_
        rintro e u14 hr;obtain⟨hC,⟨lb,hp,rfl⟩|⟨x14,TW,v14,hp,rfl,hv,hP⟩⟩:=hr.cases (Out.bh HT.out h_.out)
        ·have HF:=Z_ (Out.aF HT.out hp)
         have HC:=Z_ (aA.out.aK.then hC);clear hr hp hC;go_wp2_with fail
         exact⟨rfl,eC.fails HC.out HF.out⟩
        replace HT:=Z_ (Out.aG HT.out hp);have Yn:=Z_ ((show _ from bF.dO _ _ _ _ _ hp));replace HB:=Z_ (HB.out.call hC hP (by have:=bF.dO _ _ _ _ _ hp;omega));replace aA:=Z_ HB.out.at;obtain⟨Yo,Yp,Yq,Yr,Yt,Yu,rfl⟩:=cH hv;have Yv:=Z_ hv;have Qz:u8.heap.size≤u14.heap.size:=hC.size;clear hr hp hC hP hv HN;rw [hB] at Yv Qz;have HG:=Z_ (lW Yv.out (by omega:N+1≤B) Qz (c:=#[.int .i64 Yo,.string Yp,.int .i64 Yq,.slice Yr Yt Yu]) rfl);have eP:=(aB.refl (fun _=>False) u14).alloc (.cells #[.int .i64 Yo,.string Yp,.int .i64 Yq,.slice Yr Yt Yu] 24);replace HB:=Z_ (HB.out.extend eP);replace aA:=Z_ HB.out.at;clear eP;go_wp2_with fail
        refine(dH _ _ _ _ _ _ _).mono ?_
        rintro e u15 ⟨rfl,hE⟩;replace HB:=Z_ (HB.out.extend hE);replace aA:=Z_ HB.out.at;replace HG:=Z_ (HG.out.aK fP hE (fun _ h=>h.elim));have n0:=HB.out.nd.cell;have nf:=HB.out.nd.frozen;have nl:=HB.out.nd.lt;go_upto_region 30 with (fail)
        replace HB:=Z_ (HB.out.put (kind:=14) (text:=⟨#[]⟩) (num:=0) HG.out (by simp only [List.length_singleton];have:=HLEN.out;have:=Qy.out;have:=Yn.out;omega));replace aA:=Z_ HB.out.at;clear n0 nf nl hE HG;generalize (((u15.setCell ⟨N,0,none⟩ (.int .i64 14)).setCell ⟨N,1,none⟩ (.string ⟨#[]⟩)).setCell ⟨N,2,none⟩ (.int .i64 0)).setCell ⟨N,3,none⟩ (.slice (some ⟨u14.heap.size,0,none⟩) 1 1)=v15 at *;have HT0:=HT.out;clear HT;unfold kN at HT0;have HT:=Z_ HT0;clear HT0;have HN:=Z_ (b_ (aA.out.pr.alloc (.cells #[.string cZ] 9)) v15.heap.size 1 cZ ((aC.made v15 #[.string cZ] 9).cell 0));have eP:=(aB.refl (fun _=>False) v15).alloc (.cells #[.string cZ] 9);replace HB:=Z_ (HB.out.extend eP);replace aA:=Z_ HB.out.at;clear eP;go_wp2_with fail
        refine HN.out.mono ?_
        rintro e u16 hr;obtain⟨hC,⟨lb,hp,rfl⟩|⟨_,l16,_,hp,rfl,rfl,hP⟩⟩:=hr.cases (di _ _)
        ·have HF:=Z_ (Out.aF HT.out hp)
         have HC:=Z_ (aA.out.aK.then hC);clear hr hp hC;go_wp2_with fail
         exact⟨rfl,eC.fails HC.out HF.out⟩
        replace HT:=Z_ (Out.aG HT.out hp);have ah7:=Z_ (bF.aZ hp);replace HB:=Z_ (HB.out.call hC hP (by have:=bF.aZ hp;omega));replace aA:=Z_ HB.out.at;clear hr hp hC hP HN;obtain⟨ra,rn,rc,hrow⟩:=HB.out.slice3
        first|subst hrow|clear hrow
        have c0:=HB.out.nd.cell 0;have c1:=HB.out.nd.cell 1;have c2:=HB.out.nd.cell 2;have c3:=HB.out.nd.cell 3;have r0:=HB.out.res.cell;have rf:=HB.out.res.frozen;have rl:=HB.out.res.lt;unfold bK at r0;simp at c0 c1 c2 c3
        go_wp2_with fail
        refine bG rfl rfl rfl ((((HB.out.res.set 0 _).set 1 _).set 2 _).set 3 _) Tryz.underlying24 rfl (by kernel_rfl) ?_
        exact HB.out.ret (by decide) (HT.out.symm) _ _ _ _
      | true=>
       have Yw:=Z_ (gu.out rfl);replace hP:bz W u7 S E l.tail:=by simpa using hP
       have HT0:=HT.out;clear HT;simp only [↓reduceIte] at HT0;have HT:=Z_ HT0;clear HT0;replace HB:=Z_ (HB.out.call hC hP (by have:=gu.out rfl;omega));replace aA:=Z_ HB.out.at;clear hC hP HH gu;have HN:=Z_ (dF aA.out.pr);go_wp2_with fail
       refine HN.out.mono ?_
       rintro e u18 hr;obtain⟨hC,⟨lb,hp,rfl⟩|⟨b18,l18,v,hp,rfl,⟨rfl,hb0,hb1⟩,hP⟩⟩:=hr.cases (je _)
       ·have HF:=Z_ (Out.aF HT.out hp)
        have HC:=Z_ (aA.out.aK.then hC);clear hr hp hC;go_wp2_with fail
        exact⟨rfl,eC.fails HC.out HF.out⟩
       replace HT:=Z_ (Out.aG HT.out hp);have Yx:=Z_ (bF.dQ hp);replace HB:=Z_ (HB.out.call hC hP (by have:=bF.dQ hp;omega));replace aA:=Z_ HB.out.at;have DI:=Z_ (And.intro hb0 hb1);clear hr hp hC hP HN;clear hb0 hb1;have HN:=Z_ (qB aA.out.pr HM.out);go_wp2_with fail
       refine HN.out.mono ?_
       rintro e u19 hr;obtain⟨hC,⟨lb,hp,rfl⟩|⟨s19,l19,v,hp,rfl,⟨rfl,hs⟩,hP⟩⟩:=hr.cases (qC _)
       ·have HF:=Z_ (Out.aF HT.out hp)
        have HC:=Z_ (aA.out.aK.then hC);clear hr hp hC;go_wp2_with fail
        exact⟨rfl,eC.fails HC.out HF.out⟩
       replace HT:=Z_ (Out.aG HT.out hp);have Yy:=Z_ (bF.gW hp);replace HB:=Z_ (HB.out.call hC hP (by have:=bF.gW hp;omega));replace aA:=Z_ HB.out.at;have mM:=Z_ hs;clear hr hp hC hP HN;clear hs;have iE:=HB.out.lt;obtain⟨B,hB⟩:∃ B,u19.heap.size=B:=⟨_,rfl⟩;rw [hB] at iE;have HN:=Z_ (ih n (Nat.le_refl _) (.place s19) _ _ aA.out.pr HM.out rfl mM.out (Out.bh HT.out h_.out));go_wp2_with fail
       refine HN.out.mono ?_
       rintro e u20 hr;obtain⟨hC,⟨lb,hp,rfl⟩|⟨x20,l20,v20,hp,rfl,hv,hP⟩⟩:=hr.cases (Out.bh HT.out h_.out)
       ·have HF:=Z_ (Out.aF HT.out hp)
        have HC:=Z_ (aA.out.aK.then hC);clear hr hp hC;go_wp2_with fail
        exact⟨rfl,eC.fails HC.out HF.out⟩
       replace HT:=Z_ (Out.aG HT.out hp);have Yz:=Z_ ((show _ from bF.dO _ _ _ _ _ hp));replace HB:=Z_ (HB.out.call hC hP (by have:=bF.dO _ _ _ _ _ hp;omega));replace aA:=Z_ HB.out.at;obtain⟨TY,TZ,T_,Ua,Ub,Uc,rfl⟩:=cH hv;have LW:=Z_ hv;have LY:u19.heap.size≤u20.heap.size:=hC.size;clear hr hp hC hP hv HN;rw [hB] at LW LY;have HG:=Z_ (lW LW.out (by omega:N+1≤B) LY (c:=#[.int .i64 TY,.string TZ,.int .i64 T_,.slice Ua Ub Uc]) rfl);have eP:=(aB.refl (fun _=>False) u20).alloc (.cells #[.int .i64 TY,.string TZ,.int .i64 T_,.slice Ua Ub Uc] 24);replace HB:=Z_ (HB.out.extend eP);replace aA:=Z_ HB.out.at;clear eP;go_wp2_with fail
       refine(dH _ _ _ _ _ _ _).mono ?_
       rintro e u21 ⟨rfl,hE⟩;replace HB:=Z_ (HB.out.extend hE);replace aA:=Z_ HB.out.at;replace HG:=Z_ (HG.out.aK fP hE (fun _ h=>h.elim));have n0:=HB.out.nd.cell;have nf:=HB.out.nd.frozen;have nl:=HB.out.nd.lt;go_upto_region 30 with (fail)
       replace HB:=Z_ (HB.out.put (kind:=13) (text:=⟨#[]⟩) (num:=b18) HG.out (by simp only [List.length_singleton];have:=HLEN.out;have:=Yw.out;have:=Yx.out;have:=Yy.out;have:=Yz.out;omega));replace aA:=Z_ HB.out.at;clear n0 nf nl hE HG;generalize (((u21.setCell ⟨N,0,none⟩ (.int .i64 13)).setCell ⟨N,1,none⟩ (.string ⟨#[]⟩)).setCell ⟨N,2,none⟩ (.int .i64 b18)).setCell ⟨N,3,none⟩ (.slice (some ⟨u20.heap.size,0,none⟩) 1 1)=v21 at *;have HT0:=HT.out;clear HT;unfold kN at HT0;have HT:=Z_ HT0;clear HT0;have HN:=Z_ (b_ (aA.out.pr.alloc (.cells #[.string cZ] 9)) v21.heap.size 1 cZ ((aC.made v21 #[.string cZ] 9).cell 0));have eP:=(aB.refl (fun _=>False) v21).alloc (.cells #[.string cZ] 9);replace HB:=Z_ (HB.out.extend eP);replace aA:=Z_ HB.out.at
       clear eP;go_wp2_with fail
       refine HN.out.mono ?_
       rintro e u22 hr;obtain⟨hC,⟨lb,hp,rfl⟩|⟨_,l22,_,hp,rfl,rfl,hP⟩⟩:=hr.cases (di _ _)
       ·have HF:=Z_ (Out.aF HT.out hp)
        have HC:=Z_ (aA.out.aK.then hC);clear hr hp hC;go_wp2_with fail
        exact⟨rfl,eC.fails HC.out HF.out⟩
       replace HT:=Z_ (Out.aG HT.out hp);have ah8:=Z_ (bF.aZ hp);replace HB:=Z_ (HB.out.call hC hP (by have:=bF.aZ hp;omega));replace aA:=Z_ HB.out.at;clear hr hp hC hP HN;obtain⟨ra,rn,rc,hrow⟩:=HB.out.slice3
       first|subst hrow|clear hrow
       have c0:=HB.out.nd.cell 0;have c1:=HB.out.nd.cell 1;have c2:=HB.out.nd.cell 2;have c3:=HB.out.nd.cell 3;have r0:=HB.out.res.cell;have rf:=HB.out.res.frozen;have rl:=HB.out.res.lt;unfold bK at r0;simp at c0 c1 c2 c3
       go_wp2_with fail
       refine bG rfl rfl rfl ((((HB.out.res.set 0 _).set 1 _).set 2 _).set 3 _) Tryz.underlying24 rfl (by kernel_rfl) ?_
       exact HB.out.ret (by decide) (HT.out.symm) _ _ _ _
     | true=>
      have YA:=Z_ (gu.out rfl);replace hP:bz W u6 S E l.tail:=by simpa using hP
      have HT0:=HT.out;clear HT;simp only [↓reduceIte] at HT0;have HT:=Z_ HT0;clear HT0;replace HB:=Z_ (HB.out.call hC hP (by have:=gu.out rfl;omega));replace aA:=Z_ HB.out.at;clear hC hP HH gu;have HN:=Z_ (dF aA.out.pr);go_wp2_with fail
      refine HN.out.mono ?_
      rintro e u24 hr;obtain⟨hC,⟨lb,hp,rfl⟩|⟨b24,l24,v,hp,rfl,⟨rfl,hb0,hb1⟩,hP⟩⟩:=hr.cases (je _)
      ·have HF:=Z_ (Out.aF HT.out hp)
       have HC:=Z_ (aA.out.aK.then hC);clear hr hp hC;go_wp2_with fail
       exact⟨rfl,eC.fails HC.out HF.out⟩
      replace HT:=Z_ (Out.aG HT.out hp);have YB:=Z_ (bF.dQ hp);replace HB:=Z_ (HB.out.call hC hP (by have:=bF.dQ hp;omega));replace aA:=Z_ HB.out.at;have DI:=Z_ (And.intro hb0 hb1);clear hr hp hC hP HN;clear hb0 hb1;have iE:=HB.out.lt;obtain⟨B,hB⟩:∃ B,u24.heap.size=B:=⟨_,rfl⟩;rw [hB] at iE;have HN:=Z_ (ih n (Nat.le_refl _) (.expr) _ _ aA.out.pr HM.out rfl trivial (Out.bh HT.out h_.out));go_wp2_with fail
      refine HN.out.mono ?_
      rintro e u25 hr;obtain⟨hC,⟨lb,hp,rfl⟩|⟨x25,l25,v25,hp,rfl,hv,hP⟩⟩:=hr.cases (Out.bh HT.out h_.out)
      ·have HF:=Z_ (Out.aF HT.out hp)
       have HC:=Z_ (aA.out.aK.then hC);clear hr hp hC;go_wp2_with fail
       exact⟨rfl,eC.fails HC.out HF.out⟩
      replace HT:=Z_ (Out.aG HT.out hp);have YC:=Z_ ((show _ from bF.dO _ _ _ _ _ hp));replace HB:=Z_ (HB.out.call hC hP (by have:=bF.dO _ _ _ _ _ hp;omega));replace aA:=Z_ HB.out.at;obtain⟨YD,YE,YF,YG,YH,YI,rfl⟩:=cH hv;have YJ:=Z_ hv;have QA:u24.heap.size≤u25.heap.size:=hC.size;clear hr hp hC hP hv HN;rw [hB] at YJ QA;have HG:=Z_ (lW YJ.out (by omega:N+1≤B) QA (c:=#[.int .i64 YD,.string YE,.int .i64 YF,.slice YG YH YI]) rfl);have eP:=(aB.refl (fun _=>False) u25).alloc (.cells #[.int .i64 YD,.string YE,.int .i64 YF,.slice YG YH YI] 24);replace HB:=Z_ (HB.out.extend eP);replace aA:=Z_ HB.out.at;clear eP;go_wp2_with fail
      refine(dH _ _ _ _ _ _ _).mono ?_
      rintro e u26 ⟨rfl,hE⟩;replace HB:=Z_ (HB.out.extend hE);replace aA:=Z_ HB.out.at;replace HG:=Z_ (HG.out.aK fP hE (fun _ h=>h.elim));have n0:=HB.out.nd.cell;have nf:=HB.out.nd.frozen;have nl:=HB.out.nd.lt;go_upto_region 30 with (fail)
      replace HB:=Z_ (HB.out.put (kind:=12) (text:=⟨#[]⟩) (num:=b24) HG.out (by simp only [List.length_singleton];have:=HLEN.out;have:=YA.out;have:=YB.out;have:=YC.out;omega));replace aA:=Z_ HB.out.at;clear n0 nf nl hE HG;generalize (((u26.setCell ⟨N,0,none⟩ (.int .i64 12)).setCell ⟨N,1,none⟩ (.string ⟨#[]⟩)).setCell ⟨N,2,none⟩ (.int .i64 b24)).setCell ⟨N,3,none⟩ (.slice (some ⟨u25.heap.size,0,none⟩) 1 1)=v26 at *;have HT0:=HT.out;clear HT;unfold kN at HT0;have HT:=Z_ HT0;clear HT0;have HN:=Z_ (b_ (aA.out.pr.alloc (.cells #[.string cZ] 9)) v26.heap.size 1 cZ ((aC.made v26 #[.string cZ] 9).cell 0));have eP:=(aB.refl (fun _=>False) v26).alloc (.cells #[.string cZ] 9);replace HB:=Z_ (HB.out.extend eP);replace aA:=Z_ HB.out.at;clear eP
      go_wp2_with fail
      refine HN.out.mono ?_
      rintro e u27 hr;obtain⟨hC,⟨lb,hp,rfl⟩|⟨_,l27,_,hp,rfl,rfl,hP⟩⟩:=hr.cases (di _ _)
      ·have HF:=Z_ (Out.aF HT.out hp)
       have HC:=Z_ (aA.out.aK.then hC);clear hr hp hC;go_wp2_with fail
       exact⟨rfl,eC.fails HC.out HF.out⟩
      replace HT:=Z_ (Out.aG HT.out hp);have ah9:=Z_ (bF.aZ hp);replace HB:=Z_ (HB.out.call hC hP (by have:=bF.aZ hp;omega));replace aA:=Z_ HB.out.at;clear hr hp hC hP HN;obtain⟨ra,rn,rc,hrow⟩:=HB.out.slice3
      first|subst hrow|clear hrow
      have c0:=HB.out.nd.cell 0;have c1:=HB.out.nd.cell 1;have c2:=HB.out.nd.cell 2;have c3:=HB.out.nd.cell 3;have r0:=HB.out.res.cell;have rf:=HB.out.res.frozen;have rl:=HB.out.res.lt;unfold bK at r0;simp at c0 c1 c2 c3
      go_wp2_with fail
      refine bG rfl rfl rfl ((((HB.out.res.set 0 _).set 1 _).set 2 _).set 3 _) Tryz.underlying24 rfl (by kernel_rfl) ?_
      exact HB.out.ret (by decide) (HT.out.symm) _ _ _ _
    | true=>
     have YK:=Z_ (gu.out rfl);replace hP:bz W u5 S E l.tail:=by simpa using hP
     have HT0:=HT.out;clear HT;simp only [↓reduceIte] at HT0;have HT:=Z_ HT0;clear HT0;replace HB:=Z_ (HB.out.call hC hP (by have:=gu.out rfl;omega));replace aA:=Z_ HB.out.at;clear hC hP HH gu;have iE:=HB.out.lt;obtain⟨B,hB⟩:∃ B,u5.heap.size=B:=⟨_,rfl⟩;rw [hB] at iE;have HN:=Z_ (ih n (Nat.le_refl _) (.asked) _ _ aA.out.pr HM.out rfl trivial (Out.bh HT.out h_.out));go_wp2_with fail
     refine HN.out.mono ?_
     rintro e u29 hr;obtain⟨hC,⟨lb,hp,rfl⟩|⟨x29,l29,v29,hp,rfl,hv,hP⟩⟩:=hr.cases (Out.bh HT.out h_.out)
     ·have HF:=Z_ (Out.aF HT.out hp)
      have HC:=Z_ (aA.out.aK.then hC);clear hr hp hC;go_wp2_with fail
      exact⟨rfl,eC.fails HC.out HF.out⟩
     replace HT:=Z_ (Out.aG HT.out hp);have YL:=Z_ ((show _ from bF.dO _ _ _ _ _ hp));replace HB:=Z_ (HB.out.call hC hP (by have:=bF.dO _ _ _ _ _ hp;omega));replace aA:=Z_ HB.out.at;obtain⟨YM,YN,YO,YP,YQ,YR,rfl⟩:=cH hv;have YS:=Z_ hv;have QB:u5.heap.size≤u29.heap.size:=hC.size;clear hr hp hC hP hv HN;rw [hB] at YS QB;have HG:=Z_ (lW YS.out (by omega:N+1≤B) QB (c:=#[.int .i64 YM,.string YN,.int .i64 YO,.slice YP YQ YR]) rfl);have eP:=(aB.refl (fun _=>False) u29).alloc (.cells #[.int .i64 YM,.string YN,.int .i64 YO,.slice YP YQ YR] 24);replace HB:=Z_ (HB.out.extend eP);replace aA:=Z_ HB.out.at;clear eP;go_wp2_with fail
     refine(dH _ _ _ _ _ _ _).mono ?_
     rintro e u30 ⟨rfl,hE⟩;replace HB:=Z_ (HB.out.extend hE);replace aA:=Z_ HB.out.at;replace HG:=Z_ (HG.out.aK fP hE (fun _ h=>h.elim));have n0:=HB.out.nd.cell;have nf:=HB.out.nd.frozen;have nl:=HB.out.nd.lt;go_upto_region 20 with (fail)
     replace HB:=Z_ (HB.out.put (kind:=11) (text:=⟨#[]⟩) (num:=0) HG.out (by simp only [List.length_singleton];have:=HLEN.out;have:=YK.out;have:=YL.out;omega));replace aA:=Z_ HB.out.at;clear n0 nf nl hE HG;generalize (((u30.setCell ⟨N,0,none⟩ (.int .i64 11)).setCell ⟨N,1,none⟩ (.string ⟨#[]⟩)).setCell ⟨N,2,none⟩ (.int .i64 0)).setCell ⟨N,3,none⟩ (.slice (some ⟨u29.heap.size,0,none⟩) 1 1)=v30 at *;go_upto_region 20 with (fail)
     refine aj [3,4,5,7] (fun i v _=>v=([.pointer (some ⟨N,3,none⟩),(.slice (some ⟨u29.heap.size,0,none⟩) 1 1),.pointer (some ⟨S,0,none⟩),undef,undef,undef,.pointer (some ⟨N,3,none⟩),undef]:List Value).getD i undef) (fJ W w S E A N l29 11 ⟨#[]⟩ 0 (.slice (some ⟨u29.heap.size,0,none⟩) 1 1) [x29] (bJ n .block l29)) (fun _ _=>True) (frame:=?Es) (fun x=>?rD) mixed (by kernel_rfl) (by kernel_rfl) (fun _ _ _ _ h _=>h) ?Et ?Eu ?rE
     case rD=>
      simp only [chain.aN,chain.fill,chain.bf,chain.aY,jW,jX,jY,jZ,kz,kC,kD,kE,kF];exact rfl
     case Et=>exact HB.out.extend (aB.refl _ _).drew
     case Eu=>
      iterate 8 (refine ak.cons (fun x vs u hF hm hb hd K' hK'=>?_) ?_;rotate_left)
      exact ak.nil
      ·have HF:=Z_ hF;clear hd hm hb hF;go_simp;exact hK'.out _ _ _ rfl trivial ⟨rfl,HF.out⟩
      ·have y0:x 83=.pointer (some ⟨N,3,none⟩):=(D_ hd 0 :);have hc:=hF.cell (by have:=hb 2 _ (by decide) rfl (by kernel_rfl);omega);have HF:=Z_ hF;clear hd hm hb hF;go_simp;exact hK'.out _ _ _ (by simp only [y0];rfl) trivial ⟨rfl,HF.out⟩
      ·have HF:=Z_ hF;clear hd hm hb hF;go_simp;exact hK'.out _ _ _ rfl trivial ⟨rfl,HF.out⟩
      ·have y0:x 85=.pointer (some ⟨S,0,none⟩):=(D_ hd 2 :);obtain rfl:=kS hm;have HF:=Z_ (show iU _ _ _ _ _ _ _ _ _ _ _ _ _ _ from hF);clear hd hm hb hF;have jM:=Z_ (ih n (Nat.le_refl _) .block _ _ HF.out.pr HM.out rfl trivial (Out.bh HT.out h_.out));go_simp;refine jM.out.mono ?_
       rintro e u2 hr;obtain⟨hC,⟨lb,hp,rfl⟩|⟨xn,ln,v,hp,rfl,hv,hP⟩⟩:=hr.cases (Out.bh HT.out h_.out)
       ·have HE:=Z_ (Out.aF HT.out hp)
        have HC:=Z_ (HF.out.aK.then hC);clear hr hp hC hK' jM;go_wp2_with fail
        exact⟨rfl,eC.fails HC.out HE.out⟩
       ·exact hK'.out _ _ _ (by simp only [y0];rfl) trivial (fQ HF.out hC hp hv hP (bF.dO _ _ _ _ _ hp))
      ·obtain⟨v0,rfl⟩:=mD hm
       have y0:x 86=v0:=((D_ hd 3) 86 (by kernel_rfl) :);have hcl:∃ a b c d,v0=.agg #[a,b,c,d]:=by obtain⟨xn,ln,_,_,_,hx⟩:=hF;obtain⟨a,b,c,d,h,_⟩:=bD hx;exact⟨a,b,c,d,h⟩
       obtain⟨a0,b0,c0,d0,rfl⟩:=hcl;have HF:=Z_ hF;clear hd hm hb hF;go_simp;exact hK'.out _ _ _ (by simp only [y0];rfl) trivial (dU HF.out rfl)
      ·obtain⟨v0,v1,rfl⟩:=tN hm
       have y0:x 84=(.slice (some ⟨u29.heap.size,0,none⟩) 1 1):=(D_ hd 1 :);have y1:x 87=v1:=((D_ hd 4) 87 (by kernel_rfl) :);have hF2:=hF;obtain⟨xn,ln,hT1,aO,hfew,hx,gg,rfl,hgb,hgr⟩:=hF2;obtain⟨us,hu1,ho,hu3⟩:=aO.grow.ex;have hlt:=aO.lt;obtain⟨iW,iY,hz0,hz1,hz2⟩:=aW eU;refine wp_append_lies _ _ _ 22 rfl (N+1) 24 iW (.agg #[.int .i64 0,.string ⟨#[]⟩,.int .i64 0,.slice none 0 0]) 4 56 Tryz.underlying22 iY hz0 hz1 hz2 rfl (by decide) (.slice (some ⟨u29.heap.size,0,none⟩) 1 1) [x29].length (us.flatMap fun u=>u.cells.toList) y0 ho ⟨gg,0,none⟩ 1 1 v0.cells.toList y1 (by rw [Array.length_toList,fB hx]) ?_ (by obtain⟨a,b,c,d,e,e2,p1,p2,p3,p4⟩:=bD hx;rw [e2];intro q hq;simp at hq;rcases hq with rfl|rfl|rfl|rfl<;>assumption) (by decide) (by unfold maxLen;omega) (by omega) (by omega) u.heap.size rfl ?_
       ·intro j q hj;have e:(⟨gg,0,none⟩:Addr).add j=⟨gg,j,none⟩:=(by unfold Addr.add;split<;>simp_all);rw [e,hgb.cell];simpa using hj
       ·intro g9 c9 w9 ju iZ kU uI
        exact hK'.out _ _ _ rfl trivial (push_append hF hu1 hu3 ju iZ kU)
      ·have HF:=Z_ hF;clear hd hm hb hF;go_simp;exact hK'.out _ _ _ rfl trivial ⟨rfl,HF.out⟩
      ·obtain⟨v0,v1,v2,rfl⟩:=zF hm
       have y0:x 89=.pointer (some ⟨N,3,none⟩):=(D_ hd 6 :);have y1:x 88=v2:=((D_ hd 5) 88 (by kernel_rfl) :);have hF2:=hF;obtain⟨xn,ln,hT1,aO,gg,cc,rfl⟩:=hF2;have hc:=aO.nd.cell 3;have hf:=aO.nd.frozen 3;have hl:=aO.lt;simp at hc
       have HF:=Z_ hF;clear hd hm hb hF aO hT1;go_simp;exact hK'.out _ _ undef (by simp only [y0,y1];rfl) trivial (dV HF.out)
     case rE=>
      intro x vs w9 hl hF hk;obtain⟨v0,v1,v2,v3,rfl⟩:=zG hl
      obtain⟨xnb,lnb,hT1,jV⟩:=hF;clear hk hl;replace HT:=Z_ (Out.aG HT.out hT1.out);replace HB:=Z_ jV;replace aA:=Z_ HB.out.at;clear hT1 jV;obtain⟨ra,rn,rc,hrow⟩:=HB.out.slice3
      first|subst hrow|clear hrow
      have c0:=HB.out.nd.cell 0;have c1:=HB.out.nd.cell 1;have c2:=HB.out.nd.cell 2;have c3:=HB.out.nd.cell 3;have r0:=HB.out.res.cell;have rf:=HB.out.res.frozen;have rl:=HB.out.res.lt;unfold bK at r0;simp at c0 c1 c2 c3
      go_wp2_with fail
      refine bG rfl rfl rfl ((((HB.out.res.set 0 _).set 1 _).set 2 _).set 3 _) Tryz.underlying24 rfl (by kernel_rfl) ?_
      exact HB.out.ret (by decide) (HT.out.symm) _ _ _ _
   | true=>
    have YT:=Z_ (gu.out rfl);replace hP:bz W u4 S E l.tail:=by simpa using hP
    have HT0:=HT.out;clear HT;simp only [↓reduceIte] at HT0;have HT:=Z_ HT0;clear HT0;replace HB:=Z_ (HB.out.call hC hP (by have:=gu.out rfl;omega));replace aA:=Z_ HB.out.at;clear hC hP HH gu;have iE:=HB.out.lt;obtain⟨B,hB⟩:∃ B,u4.heap.size=B:=⟨_,rfl⟩;rw [hB] at iE;have HN:=Z_ (ih n (Nat.le_refl _) (.asked) _ _ aA.out.pr HM.out rfl trivial (Out.bh HT.out h_.out));go_wp2_with fail
    refine HN.out.mono ?_
    rintro e u32 hr;obtain⟨hC,⟨lb,hp,rfl⟩|⟨x32,l32,v32,hp,rfl,hv,hP⟩⟩:=hr.cases (Out.bh HT.out h_.out)
    ·have HF:=Z_ (Out.aF HT.out hp)
     have HC:=Z_ (aA.out.aK.then hC);clear hr hp hC;go_wp2_with fail
     exact⟨rfl,eC.fails HC.out HF.out⟩
    replace HT:=Z_ (Out.aG HT.out hp);have YU:=Z_ ((show _ from bF.dO _ _ _ _ _ hp));replace HB:=Z_ (HB.out.call hC hP (by have:=bF.dO _ _ _ _ _ hp;omega));replace aA:=Z_ HB.out.at;obtain⟨YV,YW,YX,YY,YZ,Y0,rfl⟩:=cH hv;have Y1:=Z_ hv;have QD:u4.heap.size≤u32.heap.size:=hC.size;clear hr hp hC hP hv HN;rw [hB] at Y1 QD;have HG:=Z_ (lW Y1.out (by omega:N+1≤B) QD (c:=#[.int .i64 YV,.string YW,.int .i64 YX,.slice YY YZ Y0]) rfl);have eP:=(aB.refl (fun _=>False) u32).alloc (.cells #[.int .i64 YV,.string YW,.int .i64 YX,.slice YY YZ Y0] 24);replace HB:=Z_ (HB.out.extend eP);replace aA:=Z_ HB.out.at;clear eP;go_wp2_with fail
    refine(dH _ _ _ _ _ _ _).mono ?_
    rintro e u33 ⟨rfl,hE⟩;replace HB:=Z_ (HB.out.extend hE);replace aA:=Z_ HB.out.at;replace HG:=Z_ (HG.out.aK fP hE (fun _ h=>h.elim));have n0:=HB.out.nd.cell;have nf:=HB.out.nd.frozen;have nl:=HB.out.nd.lt;go_upto_region 14 with (fail)
    replace HB:=Z_ (HB.out.put (kind:=10) (text:=⟨#[]⟩) (num:=0) HG.out (by simp only [List.length_singleton];have:=HLEN.out;have:=YT.out;have:=YU.out;omega));replace aA:=Z_ HB.out.at;clear n0 nf nl hE HG;generalize (((u33.setCell ⟨N,0,none⟩ (.int .i64 10)).setCell ⟨N,1,none⟩ (.string ⟨#[]⟩)).setCell ⟨N,2,none⟩ (.int .i64 0)).setCell ⟨N,3,none⟩ (.slice (some ⟨u32.heap.size,0,none⟩) 1 1)=v33 at *;go_upto_region 14 with (fail)
    refine aj [3,4,5,7] (fun i v _=>v=([.pointer (some ⟨N,3,none⟩),(.slice (some ⟨u32.heap.size,0,none⟩) 1 1),.pointer (some ⟨S,0,none⟩),undef,undef,undef,.pointer (some ⟨N,3,none⟩),undef]:List Value).getD i undef) (fJ W w S E A N l32 10 ⟨#[]⟩ 0 (.slice (some ⟨u32.heap.size,0,none⟩) 1 1) [x32] (bJ n .block l32)) (fun _ _=>True) (frame:=?KJ) (fun x=>?r_) mixed (by kernel_rfl) (by kernel_rfl) (fun _ _ _ _ h _=>h) ?h0c ?KL ?wV
    case r_=>
     simp only [chain.aN,chain.fill,chain.bf,chain.aY,jW,jX,jY,jZ,kz,kC,kD,kE,kF];exact rfl
    case h0c=>exact HB.out.extend (aB.refl _ _).drew
    case KL=>
     iterate 8 (refine ak.cons (fun x vs u hF hm hb hd K' hK'=>?_) ?_;rotate_left)
     exact ak.nil
     ·have HF:=Z_ hF;clear hd hm hb hF;go_simp;exact hK'.out _ _ _ rfl trivial ⟨rfl,HF.out⟩
     ·have y0:x 59=.pointer (some ⟨N,3,none⟩):=(D_ hd 0 :);have hc:=hF.cell (by have:=hb 2 _ (by decide) rfl (by kernel_rfl);omega);have HF:=Z_ hF;clear hd hm hb hF;go_simp;exact hK'.out _ _ _ (by simp only [y0];rfl) trivial ⟨rfl,HF.out⟩
     ·have HF:=Z_ hF;clear hd hm hb hF;go_simp;exact hK'.out _ _ _ rfl trivial ⟨rfl,HF.out⟩
     ·have y0:x 61=.pointer (some ⟨S,0,none⟩):=(D_ hd 2 :);obtain rfl:=kS hm;have HF:=Z_ (show iU _ _ _ _ _ _ _ _ _ _ _ _ _ _ from hF);clear hd hm hb hF;have jM:=Z_ (ih n (Nat.le_refl _) .block _ _ HF.out.pr HM.out rfl trivial (Out.bh HT.out h_.out));go_simp;refine jM.out.mono ?_
      rintro e u2 hr;obtain⟨hC,⟨lb,hp,rfl⟩|⟨xn,ln,v,hp,rfl,hv,hP⟩⟩:=hr.cases (Out.bh HT.out h_.out)
      ·have HE:=Z_ (Out.aF HT.out hp)
       have HC:=Z_ (HF.out.aK.then hC);clear hr hp hC hK' jM;go_wp2_with fail
       exact⟨rfl,eC.fails HC.out HE.out⟩
      ·exact hK'.out _ _ _ (by simp only [y0];rfl) trivial (fQ HF.out hC hp hv hP (bF.dO _ _ _ _ _ hp))
     ·obtain⟨v0,rfl⟩:=mD hm
      have y0:x 62=v0:=((D_ hd 3) 62 (by kernel_rfl) :);have hcl:∃ a b c d,v0=.agg #[a,b,c,d]:=by obtain⟨xn,ln,_,_,_,hx⟩:=hF;obtain⟨a,b,c,d,h,_⟩:=bD hx;exact⟨a,b,c,d,h⟩
      obtain⟨a0,b0,c0,d0,rfl⟩:=hcl;have HF:=Z_ hF;clear hd hm hb hF;go_simp;exact hK'.out _ _ _ (by simp only [y0];rfl) trivial (dU HF.out rfl)
     ·obtain⟨v0,v1,rfl⟩:=tN hm
      have y0:x 60=(.slice (some ⟨u32.heap.size,0,none⟩) 1 1):=(D_ hd 1 :);have y1:x 63=v1:=((D_ hd 4) 63 (by kernel_rfl) :);have hF2:=hF;obtain⟨xn,ln,hT1,aO,hfew,hx,gg,rfl,hgb,hgr⟩:=hF2;obtain⟨us,hu1,ho,hu3⟩:=aO.grow.ex;have hlt:=aO.lt;obtain⟨iW,iY,hz0,hz1,hz2⟩:=aW eU;refine wp_append_lies _ _ _ 22 rfl (N+1) 24 iW (.agg #[.int .i64 0,.string ⟨#[]⟩,.int .i64 0,.slice none 0 0]) 4 56 Tryz.underlying22 iY hz0 hz1 hz2 rfl (by decide) (.slice (some ⟨u32.heap.size,0,none⟩) 1 1) [x32].length (us.flatMap fun u=>u.cells.toList) y0 ho ⟨gg,0,none⟩ 1 1 v0.cells.toList y1 (by rw [Array.length_toList,fB hx]) ?_ (by obtain⟨a,b,c,d,e,e2,p1,p2,p3,p4⟩:=bD hx;rw [e2];intro q hq;simp at hq;rcases hq with rfl|rfl|rfl|rfl<;>assumption) (by decide) (by unfold maxLen;omega) (by omega) (by omega) u.heap.size rfl ?_
      ·intro j q hj;have e:(⟨gg,0,none⟩:Addr).add j=⟨gg,j,none⟩:=(by unfold Addr.add;split<;>simp_all);rw [e,hgb.cell];simpa using hj
      ·intro g9 c9 w9 ju iZ kU uI
       exact hK'.out _ _ _ rfl trivial (push_append hF hu1 hu3 ju iZ kU)
     ·have HF:=Z_ hF;clear hd hm hb hF;go_simp;exact hK'.out _ _ _ rfl trivial ⟨rfl,HF.out⟩
     ·obtain⟨v0,v1,v2,rfl⟩:=zF hm
      have y0:x 65=.pointer (some ⟨N,3,none⟩):=(D_ hd 6 :);have y1:x 64=v2:=((D_ hd 5) 64 (by kernel_rfl) :);have hF2:=hF;obtain⟨xn,ln,hT1,aO,gg,cc,rfl⟩:=hF2;have hc:=aO.nd.cell 3;have hf:=aO.nd.frozen 3;have hl:=aO.lt;simp at hc
      have HF:=Z_ hF;clear hd hm hb hF aO hT1;go_simp;exact hK'.out _ _ undef (by simp only [y0,y1];rfl) trivial (dV HF.out)
    case wV=>
     intro x vs w9 hl hF hk;obtain⟨v0,v1,v2,v3,rfl⟩:=zG hl
     obtain⟨xnc,E_,hT1,jV⟩:=hF;clear hk hl;replace HT:=Z_ (Out.aG HT.out hT1.out);replace HB:=Z_ jV;replace aA:=Z_ HB.out.at;clear hT1 jV;have HH:=Z_ (dh aA.out.pr FZ);have gu:=Z_ (fun (h:fK E_ [FZ]=true)=>bF.aV h);generalize fK E_ [FZ]=R at *;go_wp2_with fail
     refine HH.out.mono ?_
     rintro e u34 ⟨rfl,hC,hP⟩;cases R with
     | false=>
      replace hP:bz W u34 S E E_:=by simpa using hP
      have HT0:=HT.out;clear HT;simp only [Bool.false_eq_true,↓reduceIte] at HT0;have HT:=Z_ HT0;clear HT0;replace HB:=Z_ (HB.out.call hC hP (Nat.le_refl _));replace aA:=Z_ HB.out.at;clear hC hP HH gu;obtain⟨ra,rn,rc,hrow⟩:=HB.out.slice3
      first|subst hrow|clear hrow
      have c0:=HB.out.nd.cell 0;have c1:=HB.out.nd.cell 1;have c2:=HB.out.nd.cell 2;have c3:=HB.out.nd.cell 3;have r0:=HB.out.res.cell;have rf:=HB.out.res.frozen;have rl:=HB.out.res.lt;unfold bK at r0;simp at c0 c1 c2 c3
      go_wp2_with fail
      refine bG rfl rfl rfl ((((HB.out.res.set 0 _).set 1 _).set 2 _).set 3 _) Tryz.underlying24 rfl (by kernel_rfl) ?_
      exact HB.out.ret (by decide) (HT.out.symm) _ _ _ _
     | true=>
      have QE:=Z_ (gu.out rfl);replace hP:bz W u34 S E E_.tail:=by simpa using hP
      have HT0:=HT.out;clear HT;simp only [↓reduceIte] at HT0;have HT:=Z_ HT0;clear HT0;replace HB:=Z_ (HB.out.call hC hP (by have:=gu.out rfl;omega));replace aA:=Z_ HB.out.at;clear hC hP HH gu;go_upto_region 16 with (fail)
      refine aj [3,4,5,7] (fun i v _=>v=([.pointer (some ⟨N,3,none⟩),v2,.pointer (some ⟨S,0,none⟩),undef,undef,undef,.pointer (some ⟨N,3,none⟩),undef]:List Value).getD i undef) (fJ W w S E A N E_.tail 10 ⟨#[]⟩ 0 v2 ([x32] ++ [xnc]) (bJ n .block E_.tail)) (fun _ _=>True) (frame:=?Wy) (fun x=>?Kq) mixed (by kernel_rfl) (by kernel_rfl) (fun _ _ _ _ h _=>h) ?WA ?WB ?find
      case Kq=>
       simp only [chain.aN,chain.fill,chain.bf,chain.aY,jW,jX,jY,jZ,kz,kC,kD,kE,kF];exact rfl
      case WA=>exact HB.out.extend (aB.refl _ _).drew
      case WB=>
       iterate 8 (refine ak.cons (fun x vs u hF hm hb hd K' hK'=>?_) ?_;rotate_left)
       exact ak.nil
       ·have HF:=Z_ hF;clear hd hm hb hF;go_simp;exact hK'.out _ _ _ rfl trivial ⟨rfl,HF.out⟩
       ·have y0:x 68=.pointer (some ⟨N,3,none⟩):=(D_ hd 0 :);have hc:=hF.cell (by have:=hb 2 _ (by decide) rfl (by kernel_rfl);omega);have HF:=Z_ hF;clear hd hm hb hF;go_simp;exact hK'.out _ _ _ (by simp only [y0];rfl) trivial ⟨rfl,HF.out⟩
       ·have HF:=Z_ hF;clear hd hm hb hF;go_simp;exact hK'.out _ _ _ rfl trivial ⟨rfl,HF.out⟩
       ·have y0:x 70=.pointer (some ⟨S,0,none⟩):=(D_ hd 2 :);obtain rfl:=kS hm;have HF:=Z_ (show iU _ _ _ _ _ _ _ _ _ _ _ _ _ _ from hF);clear hd hm hb hF;have jM:=Z_ (ih n (Nat.le_refl _) .block _ _ HF.out.pr HM.out rfl trivial (Out.bh HT.out h_.out));go_simp;refine jM.out.mono ?_
        rintro e u2 hr;obtain⟨hC,⟨lb,hp,rfl⟩|⟨xn,ln,v,hp,rfl,hv,hP⟩⟩:=hr.cases (Out.bh HT.out h_.out)
        ·have HE:=Z_ (Out.aF HT.out hp)
         have HC:=Z_ (HF.out.aK.then hC);clear hr hp hC hK' jM;go_wp2_with fail
         exact⟨rfl,eC.fails HC.out HE.out⟩
        ·exact hK'.out _ _ _ (by simp only [y0];rfl) trivial (fQ HF.out hC hp hv hP (bF.dO _ _ _ _ _ hp))
       ·obtain⟨v0,rfl⟩:=mD hm
        have y0:x 71=v0:=((D_ hd 3) 71 (by kernel_rfl) :);have hcl:∃ a b c d,v0=.agg #[a,b,c,d]:=by obtain⟨xn,ln,_,_,_,hx⟩:=hF;obtain⟨a,b,c,d,h,_⟩:=bD hx;exact⟨a,b,c,d,h⟩
        obtain⟨a0,b0,c0,d0,rfl⟩:=hcl;have HF:=Z_ hF;clear hd hm hb hF;go_simp;exact hK'.out _ _ _ (by simp only [y0];rfl) trivial (dU HF.out rfl)
       ·obtain⟨v0,v1,rfl⟩:=tN hm
        have y0:x 69=v2:=(D_ hd 1 :);have y1:x 72=v1:=((D_ hd 4) 72 (by kernel_rfl) :);have hF2:=hF;obtain⟨xn,ln,hT1,aO,hfew,hx,gg,rfl,hgb,hgr⟩:=hF2;obtain⟨us,hu1,ho,hu3⟩:=aO.grow.ex;have hlt:=aO.lt;obtain⟨iW,iY,hz0,hz1,hz2⟩:=aW eU;refine wp_append_lies _ _ _ 22 rfl (N+1) 24 iW (.agg #[.int .i64 0,.string ⟨#[]⟩,.int .i64 0,.slice none 0 0]) 4 56 Tryz.underlying22 iY hz0 hz1 hz2 rfl (by decide) v2 ([x32] ++ [xnc]).length (us.flatMap fun u=>u.cells.toList) y0 ho ⟨gg,0,none⟩ 1 1 v0.cells.toList y1 (by rw [Array.length_toList,fB hx]) ?_ (by obtain⟨a,b,c,d,e,e2,p1,p2,p3,p4⟩:=bD hx;rw [e2];intro q hq;simp at hq;rcases hq with rfl|rfl|rfl|rfl<;>assumption) (by decide) (by unfold maxLen;omega) (by omega) (by omega) u.heap.size rfl ?_
        ·intro j q hj;have e:(⟨gg,0,none⟩:Addr).add j=⟨gg,j,none⟩:=(by unfold Addr.add;split<;>simp_all);rw [e,hgb.cell];simpa using hj
        ·intro g9 c9 w9 ju iZ kU uI
         exact hK'.out _ _ _ rfl trivial (push_append hF hu1 hu3 ju iZ kU)
       ·have HF:=Z_ hF;clear hd hm hb hF;go_simp;exact hK'.out _ _ _ rfl trivial ⟨rfl,HF.out⟩
       ·obtain⟨v0,v1,v2,rfl⟩:=zF hm
        have y0:x 74=.pointer (some ⟨N,3,none⟩):=(D_ hd 6 :);have y1:x 73=v2:=((D_ hd 5) 73 (by kernel_rfl) :);have hF2:=hF;obtain⟨xn,ln,hT1,aO,gg,cc,rfl⟩:=hF2;have hc:=aO.nd.cell 3;have hf:=aO.nd.frozen 3;have hl:=aO.lt;simp at hc
        have HF:=Z_ hF;clear hd hm hb hF aO hT1;go_simp;exact hK'.out _ _ undef (by simp only [y0,y1];rfl) trivial (dV HF.out)
      case find=>
       intro x vs w9 hl hF hk;obtain⟨v0,v1,v2,v3,rfl⟩:=zG hl
       obtain⟨xnd,lnd,hT1,jV⟩:=hF;clear hk hl;replace HT:=Z_ (Out.aG HT.out hT1.out);replace HB:=Z_ jV;replace aA:=Z_ HB.out.at;clear hT1 jV;obtain⟨ra,rn,rc,hrow⟩:=HB.out.slice3
       first|subst hrow|clear hrow
       have c0:=HB.out.nd.cell 0;have c1:=HB.out.nd.cell 1;have c2:=HB.out.nd.cell 2;have c3:=HB.out.nd.cell 3;have r0:=HB.out.res.cell;have rf:=HB.out.res.frozen;have rl:=HB.out.res.lt;unfold bK at r0;simp at c0 c1 c2 c3
       go_wp2_with fail
       refine bG rfl rfl rfl ((((HB.out.res.set 0 _).set 1 _).set 2 _).set 3 _) Tryz.underlying24 rfl (by kernel_rfl) ?_
       exact HB.out.ret (by decide) (HT.out.symm) _ _ _ _
  | true=>
   have Y2:=Z_ (gu.out rfl);replace hP:bz W u3 S E l.tail:=by simpa using hP
   have HT0:=HT.out;clear HT;simp only [↓reduceIte] at HT0;have HT:=Z_ HT0;clear HT0;replace HB:=Z_ (HB.out.call hC hP (by have:=gu.out rfl;omega));replace aA:=Z_ HB.out.at;clear hC hP HH gu;have HN:=Z_ (qB aA.out.pr HM.out);go_wp2_with fail
   refine HN.out.mono ?_
   rintro e u35 hr;obtain⟨hC,⟨lb,hp,rfl⟩|⟨s35,l35,v,hp,rfl,⟨rfl,hs⟩,hP⟩⟩:=hr.cases (qC _)
   ·have HF:=Z_ (Out.aF HT.out hp)
    have HC:=Z_ (aA.out.aK.then hC);clear hr hp hC;go_wp2_with fail
    exact⟨rfl,eC.fails HC.out HF.out⟩
   replace HT:=Z_ (Out.aG HT.out hp);have QE:=Z_ (bF.gW hp);replace HB:=Z_ (HB.out.call hC hP (by have:=bF.gW hp;omega));replace aA:=Z_ HB.out.at;have mM:=Z_ hs;clear hr hp hC hP HN;clear hs;have iE:=HB.out.lt;obtain⟨B,hB⟩:∃ B,u35.heap.size=B:=⟨_,rfl⟩;rw [hB] at iE;have HN:=Z_ (ih n (Nat.le_refl _) (.call s35) _ _ aA.out.pr HM.out rfl mM.out (Out.bh HT.out h_.out));go_wp2_with fail
   refine HN.out.mono ?_
   rintro e u36 hr;obtain⟨hC,⟨lb,hp,rfl⟩|⟨x36,l36,v36,hp,rfl,hv,hP⟩⟩:=hr.cases (Out.bh HT.out h_.out)
   ·have HF:=Z_ (Out.aF HT.out hp)
    have HC:=Z_ (aA.out.aK.then hC);clear hr hp hC;go_wp2_with fail
    exact⟨rfl,eC.fails HC.out HF.out⟩
   replace HT:=Z_ (Out.aG HT.out hp);have Y3:=Z_ ((show _ from bF.dO _ _ _ _ _ hp));replace HB:=Z_ (HB.out.call hC hP (by have:=bF.dO _ _ _ _ _ hp;omega));replace aA:=Z_ HB.out.at;obtain⟨Y4,Y5,Y6,Y7,Y8,Y9,rfl⟩:=cH hv;have Y_:=Z_ hv;have QF:u35.heap.size≤u36.heap.size:=hC.size;clear hr hp hC hP hv HN;rw [hB] at Y_ QF;have HG:=Z_ (lW Y_.out (by omega:N+1≤B) QF (c:=#[.int .i64 Y4,.string Y5,.int .i64 Y6,.slice Y7 Y8 Y9]) rfl);have eP:=(aB.refl (fun _=>False) u36).alloc (.cells #[.int .i64 Y4,.string Y5,.int .i64 Y6,.slice Y7 Y8 Y9] 24);replace HB:=Z_ (HB.out.extend eP);replace aA:=Z_ HB.out.at;clear eP;go_wp2_with fail
   refine(dH _ _ _ _ _ _ _).mono ?_
   rintro e u37 ⟨rfl,hE⟩;replace HB:=Z_ (HB.out.extend hE);replace aA:=Z_ HB.out.at;replace HG:=Z_ (HG.out.aK fP hE (fun _ h=>h.elim));have n0:=HB.out.nd.cell;have nf:=HB.out.nd.frozen;have nl:=HB.out.nd.lt;go_upto_region 30 with (fail)
   replace HB:=Z_ (HB.out.put (kind:=9) (text:=⟨#[]⟩) (num:=0) HG.out (by simp only [List.length_singleton];have:=HLEN.out;have:=Y2.out;have:=QE.out;have:=Y3.out;omega));replace aA:=Z_ HB.out.at;clear n0 nf nl hE HG;generalize (((u37.setCell ⟨N,0,none⟩ (.int .i64 9)).setCell ⟨N,1,none⟩ (.string ⟨#[]⟩)).setCell ⟨N,2,none⟩ (.int .i64 0)).setCell ⟨N,3,none⟩ (.slice (some ⟨u36.heap.size,0,none⟩) 1 1)=v37 at *;have HT0:=HT.out;clear HT;unfold kN at HT0;have HT:=Z_ HT0;clear HT0;have HN:=Z_ (b_ (aA.out.pr.alloc (.cells #[.string cZ] 9)) v37.heap.size 1 cZ ((aC.made v37 #[.string cZ] 9).cell 0));have eP:=(aB.refl (fun _=>False) v37).alloc (.cells #[.string cZ] 9);replace HB:=Z_ (HB.out.extend eP);replace aA:=Z_ HB.out.at;clear eP;go_wp2_with fail
   refine HN.out.mono ?_
   rintro e u38 hr;obtain⟨hC,⟨lb,hp,rfl⟩|⟨_,l38,_,hp,rfl,rfl,hP⟩⟩:=hr.cases (di _ _)
   ·have HF:=Z_ (Out.aF HT.out hp)
    have HC:=Z_ (aA.out.aK.then hC);clear hr hp hC;go_wp2_with fail
    exact⟨rfl,eC.fails HC.out HF.out⟩
   replace HT:=Z_ (Out.aG HT.out hp);have ah_:=Z_ (bF.aZ hp);replace HB:=Z_ (HB.out.call hC hP (by have:=bF.aZ hp;omega));replace aA:=Z_ HB.out.at;clear hr hp hC hP HN;obtain⟨ra,rn,rc,hrow⟩:=HB.out.slice3
   first|subst hrow|clear hrow
   have c0:=HB.out.nd.cell 0;have c1:=HB.out.nd.cell 1;have c2:=HB.out.nd.cell 2;have c3:=HB.out.nd.cell 3;have r0:=HB.out.res.cell;have rf:=HB.out.res.frozen;have rl:=HB.out.res.lt;unfold bK at r0;simp at c0 c1 c2 c3
   go_wp2_with fail
   refine bG rfl rfl rfl ((((HB.out.res.set 0 _).set 1 _).set 2 _).set 3 _) Tryz.underlying24 rfl (by kernel_rfl) ?_
   exact HB.out.ret (by decide) (HT.out.symm) _ _ _ _
 | true=>
  have HT0:=HT.out;clear HT;simp only [↓reduceIte] at HT0;have HT:=Z_ HT0;clear HT0;have HN:=Z_ (dF aA.out.pr);go_wp2_with fail
  refine HN.out.mono ?_
  rintro e u39 hr;obtain⟨hC,⟨lb,hp,rfl⟩|⟨b39,l39,v,hp,rfl,⟨rfl,hb0,hb1⟩,hP⟩⟩:=hr.cases (je _)
  ·have HF:=Z_ (Out.aF HT.out hp)
   have HC:=Z_ (aA.out.aK.then hC);clear hr hp hC;go_wp2_with fail
   exact⟨rfl,eC.fails HC.out HF.out⟩
  replace HT:=Z_ (Out.aG HT.out hp);have Za:=Z_ (bF.dQ hp);replace HB:=Z_ (HB.out.call hC hP (by have:=bF.dQ hp;omega));replace aA:=Z_ HB.out.at;have DI:=Z_ (And.intro hb0 hb1);clear hr hp hC hP HN;clear hb0 hb1;have HN:=Z_ (name_any aA.out.pr HM.out);go_wp2_with fail
  refine HN.out.mono ?_
  rintro e u40 hr;obtain⟨hC,⟨lb,hp,rfl⟩|⟨s40,l40,v,hp,rfl,⟨rfl,hs⟩,hP⟩⟩:=hr.cases (iI _)
  ·have HF:=Z_ (Out.aF HT.out hp)
   have HC:=Z_ (aA.out.aK.then hC);clear hr hp hC;go_wp2_with fail
   exact⟨rfl,eC.fails HC.out HF.out⟩
  replace HT:=Z_ (Out.aG HT.out hp);have Zb:=Z_ (bF.iq hp);replace HB:=Z_ (HB.out.call hC hP (by have:=bF.iq hp;omega));replace aA:=Z_ HB.out.at;have mM:=Z_ hs;clear hr hp hC hP HN;clear hs;go_wp2_with fail
  refine(dH _ _ _ _ _ _ _).mono ?_
  rintro e u41 ⟨rfl,hE⟩;replace HB:=Z_ (HB.out.extend hE);replace aA:=Z_ HB.out.at;have HG:=Z_ (Grow.nil 4 24 OH (N+1) u41);have n0:=HB.out.nd.cell;have nf:=HB.out.nd.frozen;have nl:=HB.out.nd.lt;go_upto_region 8 with (fail)
  replace HB:=Z_ (HB.out.put (kind:=7) (text:=s40) (num:=b39) HG.out (by simp only [List.length_nil];have:=HLEN.out;have:=Za.out;have:=Zb.out;omega));replace aA:=Z_ HB.out.at;clear n0 nf nl hE HG;generalize (((u41.setCell ⟨N,0,none⟩ (.int .i64 7)).setCell ⟨N,1,none⟩ (.string s40)).setCell ⟨N,2,none⟩ (.int .i64 b39)).setCell ⟨N,3,none⟩ (.slice none 0 0)=v41 at *;have HN:=Z_ (b_ (aA.out.pr.alloc (.cells #[.string Nh] 9)) v41.heap.size 1 Nh ((aC.made v41 #[.string Nh] 9).cell 0));have eP:=(aB.refl (fun _=>False) v41).alloc (.cells #[.string Nh] 9);replace HB:=Z_ (HB.out.extend eP);replace aA:=Z_ HB.out.at;clear eP;go_wp2_with fail
  refine HN.out.mono ?_
  rintro e u42 hr;obtain⟨hC,⟨lb,hp,rfl⟩|⟨_,l42,_,hp,rfl,rfl,hP⟩⟩:=hr.cases (di _ _)
  ·have HF:=Z_ (Out.aF HT.out hp)
   have HC:=Z_ (aA.out.aK.then hC);clear hr hp hC;go_wp2_with fail
   exact⟨rfl,eC.fails HC.out HF.out⟩
  replace HT:=Z_ (Out.aG HT.out hp);have ai0:=Z_ (bF.aZ hp);replace HB:=Z_ (HB.out.call hC hP (by have:=bF.aZ hp;omega));replace aA:=Z_ HB.out.at;clear hr hp hC hP HN;go_upto_region 9 with (fail)
  refine aj [3,4,5,7] (fun i v _=>v=([.pointer (some ⟨N,3,none⟩),(.slice none 0 0),.pointer (some ⟨S,0,none⟩),undef,undef,undef,.pointer (some ⟨N,3,none⟩),undef]:List Value).getD i undef) (fJ W w S E A N l42 7 s40 b39 (.slice none 0 0) [] (bJ n .expr l42)) (fun _ _=>True) (frame:=?NU) (fun x=>?zM) mixed (by kernel_rfl) (by kernel_rfl) (fun _ _ _ _ h _=>h) ?NV ?NW ?fine
  case zM=>
   simp only [chain.aN,chain.fill,chain.bf,chain.aY,jW,jX,jY,jZ,kz,kC,kD,kE,kF];exact rfl
  case NV=>exact HB.out.extend (aB.refl _ _).drew
  case NW=>
   iterate 8 (refine ak.cons (fun x vs u hF hm hb hd K' hK'=>?_) ?_;rotate_left)
   exact ak.nil
   ·have HF:=Z_ hF;clear hd hm hb hF;go_simp;exact hK'.out _ _ _ rfl trivial ⟨rfl,HF.out⟩
   ·have y0:x 36=.pointer (some ⟨N,3,none⟩):=(D_ hd 0 :);have hc:=hF.cell (by have:=hb 2 _ (by decide) rfl (by kernel_rfl);omega);have HF:=Z_ hF;clear hd hm hb hF;go_simp;exact hK'.out _ _ _ (by simp only [y0];rfl) trivial ⟨rfl,HF.out⟩
   ·have HF:=Z_ hF;clear hd hm hb hF;go_simp;exact hK'.out _ _ _ rfl trivial ⟨rfl,HF.out⟩
   ·have y0:x 38=.pointer (some ⟨S,0,none⟩):=(D_ hd 2 :);obtain rfl:=kS hm;have HF:=Z_ (show iU _ _ _ _ _ _ _ _ _ _ _ _ _ _ from hF);clear hd hm hb hF;have jM:=Z_ (ih n (Nat.le_refl _) .expr _ _ HF.out.pr HM.out rfl trivial (Out.bh HT.out h_.out));go_simp;refine jM.out.mono ?_
    rintro e u2 hr;obtain⟨hC,⟨lb,hp,rfl⟩|⟨xn,ln,v,hp,rfl,hv,hP⟩⟩:=hr.cases (Out.bh HT.out h_.out)
    ·have HE:=Z_ (Out.aF HT.out hp)
     have HC:=Z_ (HF.out.aK.then hC);clear hr hp hC hK' jM;go_wp2_with fail
     exact⟨rfl,eC.fails HC.out HE.out⟩
    ·exact hK'.out _ _ _ (by simp only [y0];rfl) trivial (fQ HF.out hC hp hv hP (bF.dO _ _ _ _ _ hp))
   ·obtain⟨v0,rfl⟩:=mD hm
    have y0:x 39=v0:=((D_ hd 3) 39 (by kernel_rfl) :);have hcl:∃ a b c d,v0=.agg #[a,b,c,d]:=by obtain⟨xn,ln,_,_,_,hx⟩:=hF;obtain⟨a,b,c,d,h,_⟩:=bD hx;exact⟨a,b,c,d,h⟩
    obtain⟨a0,b0,c0,d0,rfl⟩:=hcl;have HF:=Z_ hF;clear hd hm hb hF;go_simp;exact hK'.out _ _ _ (by simp only [y0];rfl) trivial (dU HF.out rfl)
   ·obtain⟨v0,v1,rfl⟩:=tN hm
    have y0:x 37=(.slice none 0 0):=(D_ hd 1 :);have y1:x 40=v1:=((D_ hd 4) 40 (by kernel_rfl) :);have hF2:=hF;obtain⟨xn,ln,hT1,aO,hfew,hx,gg,rfl,hgb,hgr⟩:=hF2;obtain⟨us,hu1,ho,hu3⟩:=aO.grow.ex;have hlt:=aO.lt;obtain⟨iW,iY,hz0,hz1,hz2⟩:=aW eU;refine wp_append_lies _ _ _ 22 rfl (N+1) 24 iW (.agg #[.int .i64 0,.string ⟨#[]⟩,.int .i64 0,.slice none 0 0]) 4 56 Tryz.underlying22 iY hz0 hz1 hz2 rfl (by decide) (.slice none 0 0) [].length (us.flatMap fun u=>u.cells.toList) y0 ho ⟨gg,0,none⟩ 1 1 v0.cells.toList y1 (by rw [Array.length_toList,fB hx]) ?_ (by obtain⟨a,b,c,d,e,e2,p1,p2,p3,p4⟩:=bD hx;rw [e2];intro q hq;simp at hq;rcases hq with rfl|rfl|rfl|rfl<;>assumption) (by decide) (by unfold maxLen;omega) (by omega) (by omega) u.heap.size rfl ?_
    ·intro j q hj;have e:(⟨gg,0,none⟩:Addr).add j=⟨gg,j,none⟩:=(by unfold Addr.add;split<;>simp_all);rw [e,hgb.cell];simpa using hj
    ·intro g9 c9 w9 ju iZ kU uI
     exact hK'.out _ _ _ rfl trivial (push_append hF hu1 hu3 ju iZ kU)
   ·have HF:=Z_ hF;clear hd hm hb hF;go_simp;exact hK'.out _ _ _ rfl trivial ⟨rfl,HF.out⟩
   ·obtain⟨v0,v1,v2,rfl⟩:=zF hm
    have y0:x 42=.pointer (some ⟨N,3,none⟩):=(D_ hd 6 :);have y1:x 41=v2:=((D_ hd 5) 41 (by kernel_rfl) :);have hF2:=hF;obtain⟨xn,ln,hT1,aO,gg,cc,rfl⟩:=hF2;have hc:=aO.nd.cell 3;have hf:=aO.nd.frozen 3;have hl:=aO.lt;simp at hc
    have HF:=Z_ hF;clear hd hm hb hF aO hT1;go_simp;exact hK'.out _ _ undef (by simp only [y0,y1];rfl) trivial (dV HF.out)
  case fine=>
   intro x vs w9 hl hF hk;obtain⟨v0,v1,v2,v3,rfl⟩:=zG hl
   obtain⟨xne,lne,hT1,jV⟩:=hF;clear hk hl;replace HT:=Z_ (Out.aG HT.out hT1.out);replace HB:=Z_ jV;replace aA:=Z_ HB.out.at;clear hT1 jV;have HT0:=HT.out;clear HT;unfold kN at HT0;have HT:=Z_ HT0;clear HT0;have HN:=Z_ (b_ (aA.out.pr.alloc (.cells #[.string cZ] 9)) w9.heap.size 1 cZ ((aC.made w9 #[.string cZ] 9).cell 0));have eP:=(aB.refl (fun _=>False) w9).alloc (.cells #[.string cZ] 9);replace HB:=Z_ (HB.out.extend eP);replace aA:=Z_ HB.out.at;clear eP;go_wp2_with fail
   refine HN.out.mono ?_
   rintro e u43 hr;obtain⟨hC,⟨lb,hp,rfl⟩|⟨_,l43,_,hp,rfl,rfl,hP⟩⟩:=hr.cases (di _ _)
   ·have HF:=Z_ (Out.aF HT.out hp)
    have HC:=Z_ (aA.out.aK.then hC);clear hr hp hC;go_wp2_with fail
    exact⟨rfl,eC.fails HC.out HF.out⟩
   replace HT:=Z_ (Out.aG HT.out hp);have ai1:=Z_ (bF.aZ hp);replace HB:=Z_ (HB.out.call hC hP (by have:=bF.aZ hp;omega));replace aA:=Z_ HB.out.at;clear hr hp hC hP HN;obtain⟨ra,rn,rc,hrow⟩:=HB.out.slice3
   first|subst hrow|clear hrow
   have c0:=HB.out.nd.cell 0;have c1:=HB.out.nd.cell 1;have c2:=HB.out.nd.cell 2;have c3:=HB.out.nd.cell 3;have r0:=HB.out.res.cell;have rf:=HB.out.res.frozen;have rl:=HB.out.res.lt;unfold bK at r0;simp at c0 c1 c2 c3
   go_wp2_with fail
   refine bG rfl rfl rfl ((((HB.out.res.set 0 _).set 1 _).set 2 _).set 3 _) Tryz.underlying24 rfl (by kernel_rfl) ?_
   exact HB.out.ret (by have:=mM.out;omega) (HT.out.symm) _ _ _ _
end bu
end Go.Proofs.YtpcihajmcejliacGreatDoor
