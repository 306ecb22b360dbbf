/- The walk of the program's parser: statements. -/
import Derived.Test.YtpcihajmcejliacGreatDoorSyn5m
namespace Go.Proofs.YtpcihajmcejliacGreatDoor
open Go.RowKit
namespace bn
set_option maxRecDepth 100000 in
set_option maxHeartbeats 4000000 in
theorem uV {n:Nat} (ih:∀ m,m≤n→Good m) {W w:World} {S E:Nat} {l:List Tk} (h:bu W w S E l) (hm:dw W) (hne:bJ (n+1) (.stat) l≠.out) :
  Calls Tryz.prog 276 #[.pointer (some ⟨S,0,none⟩)] w (dZ (VN w.heap.size) W w S E (bJ (n+1) (.stat) l)):=by
 obtain⟨T,hT⟩:∃ T,bJ (n+1) (.stat) l=T:=⟨_,rfl⟩;rw [hT] at hne ⊢;simp only [bJ] at hT;have HT:=Z_ hT;have ig:=Z_ hne;have HM:=Z_ hm;have aA:Hid (At W w (w.alloc (.cells #[.int .i64 0,.string ⟨#[]⟩,.int .i64 0,.slice none 0 0] 24)) S E w.heap.size l):=Z_ (At.start h);obtain⟨A,hA⟩:∃ A,w.heap.size=A:=⟨_,rfl⟩;rw [hA] at aA;have MW:S<A:=by have:=h.lt;omega
 clear h hm hne hT;go_enter Tryz.func276,Tryz.ntmps276
 go_upto_region 1 with (fail)
 generalize w.alloc (.cells #[.int .i64 0,.string ⟨#[]⟩,.int .i64 0,.slice none 0 0] 24)=u0 at *;have hlen:=DI aA.out.pr;have HLEN:=Z_ hlen;clear hlen;have HB:=Z_ ((aA.out.alloc (.cells #[.int .i64 0,.string ⟨#[]⟩,.int .i64 0,.slice none 0 0] 24)).Sz (aH.made u0 _ _) aA.out.lt);obtain⟨N,hN⟩:∃ N,u0.heap.size=N:=⟨_,rfl⟩;rw [hN] at HB;have CN:=aA.out.lt;rw [hN] at CN;clear aA;have aA:=Z_ HB.out.at;go_upto_region 5 with (fail)
 generalize u0.alloc (.cells #[.int .i64 0,.string ⟨#[]⟩,.int .i64 0,.slice none 0 0] 24)=u1 at *
 have HH:=Z_ (sW (aA.out.pr.alloc (.cells #[.string qN,.string pq] 9)) u1.heap.size [qN,pq] 2 2 rfl (by decide) (fun j hj=>by
  have hj2:j<2:=by simpa using hj
  obtain rfl|rfl:j=0∨j=1:=by omega
  ·exact(aH.made u1 #[.string qN,.string pq] 9).cell 0
  ·exact(aH.made u1 #[.string qN,.string pq] 9).cell 1) (by simp))
 have eM:=(aB.refl (fun _=>False) u1).alloc (.cells #[.string qN,.string pq] 9);replace HB:=Z_ (HB.out.extend eM);replace aA:=Z_ HB.out.at;clear eM;generalize fO l [qN,pq]=R at *;go_wp2_with fail
 refine HH.out.mono ?_
 rintro e u2 ⟨rfl,hE⟩;replace HB:=Z_ (HB.out.extend hE);replace aA:=Z_ HB.out.at;clear hE HH;cases R with
 | false=>
  have HT0:=HT.out;clear HT;simp only [Bool.false_eq_true,↓reduceIte] at HT0;have HT:=Z_ HT0;clear HT0;have HH:=Z_ (cZ aA.out.pr XX);have gI:=Z_ (fun (h:fO l [XX]=true)=>bC.aU h);generalize fO l [XX]=R at *;go_wp2_with fail
  refine HH.out.mono ?_
  rintro e u3 ⟨rfl,hC,hP⟩;cases R with
  | false=>
   replace hP:bu W u3 S E l:=by simpa using hP
   have HT0:=HT.out;clear HT;simp only [Bool.false_eq_true,↓reduceIte] at HT0;have HT:=Z_ HT0;clear HT0;replace HB:=Z_ (HB.out.call hC hP (Nat.le_refl _));replace aA:=Z_ HB.out.at;clear hC hP HH gI;have HH:=Z_ (cZ aA.out.pr XY);have gI:=Z_ (fun (h:fO l [XY]=true)=>bC.aU h);generalize fO l [XY]=R at *;go_wp2_with fail
   refine HH.out.mono ?_
   rintro e u4 ⟨rfl,hC,hP⟩;cases R with
   | false=>
    replace hP:bu W u4 S E l:=by simpa using hP
    have HT0:=HT.out;clear HT;simp only [Bool.false_eq_true,↓reduceIte] at HT0;have HT:=Z_ HT0;clear HT0;replace HB:=Z_ (HB.out.call hC hP (Nat.le_refl _));replace aA:=Z_ HB.out.at;clear hC hP HH gI;have HH:=Z_ (cZ aA.out.pr zo);have gI:=Z_ (fun (h:fO l [zo]=true)=>bC.aU h);generalize fO l [zo]=R at *;go_wp2_with fail
    refine HH.out.mono ?_
    rintro e u5 ⟨rfl,hC,hP⟩;cases R with
    | false=>
     replace hP:bu W u5 S E l:=by simpa using hP
     have HT0:=HT.out;clear HT;simp only [Bool.false_eq_true,↓reduceIte] at HT0;have HT:=Z_ HT0;clear HT0;replace HB:=Z_ (HB.out.call hC hP (Nat.le_refl _));replace aA:=Z_ HB.out.at;clear hC hP HH gI;have HH:=Z_ (cZ aA.out.pr L8);have gI:=Z_ (fun (h:fO l [L8]=true)=>bC.aU h);generalize fO l [L8]=R at *;go_wp2_with fail
     refine HH.out.mono ?_
     rintro e u6 ⟨rfl,hC,hP⟩;cases R with
     | false=>
      replace hP:bu W u6 S E l:=by simpa using hP
      have HT0:=HT.out;clear HT;simp only [Bool.false_eq_true,↓reduceIte] at HT0;have HT:=Z_ HT0;clear HT0;replace HB:=Z_ (HB.out.call hC hP (Nat.le_refl _));replace aA:=Z_ HB.out.at;clear hC hP HH gI;have HH:=Z_ (cZ aA.out.pr XZ);have gI:=Z_ (fun (h:fO l [XZ]=true)=>bC.aU h);generalize fO l [XZ]=R at *;go_wp2_with fail
      refine HH.out.mono ?_
      rintro e u7 ⟨rfl,hC,hP⟩;cases R with
      | false=>
       replace hP:bu W u7 S E l:=by simpa using hP
       have HT0:=HT.out;clear HT;simp only [Bool.false_eq_true,↓reduceIte] at HT0;have HT:=Z_ HT0;clear HT0;replace HB:=Z_ (HB.out.call hC hP (Nat.le_refl _));replace aA:=Z_ HB.out.at;clear hC hP HH gI;have HH:=Z_ (cZ aA.out.pr uF);have gI:=Z_ (fun (h:fO l [uF]=true)=>bC.aU h);generalize fO l [uF]=R at *;go_wp2_with fail
       refine HH.out.mono ?_
       rintro e u8 ⟨rfl,hC,hP⟩;cases R with
       | false=>
        replace hP:bu W u8 S E l:=by simpa using hP
        have HT0:=HT.out;clear HT;simp only [Bool.false_eq_true,↓reduceIte] at HT0;have HT:=Z_ HT0;clear HT0;replace HB:=Z_ (HB.out.call hC hP (Nat.le_refl _));replace aA:=Z_ HB.out.at;clear hC hP HH gI;have HN:=Z_ (p_ aA.out.pr HM.out);go_wp2_with fail
        refine HN.out.mono ?_
        rintro e u9 hr;obtain⟨hC,⟨lb,hp,rfl⟩|⟨s9,l9,v,hp,rfl,⟨rfl,hs⟩,hP⟩⟩:=hr.cases (qg _)
        ·have HF:=Z_ (Out.aF HT.out hp)
         have HC:=Z_ (aA.out.aO.then hC);clear hr hp hC;go_wp2_with fail
         exact⟨rfl,dZ.fails HC.out HF.out⟩
        replace HT:=Z_ (Out.aG HT.out hp);have ab4:=Z_ (bC.gV hp);replace HB:=Z_ (HB.out.call hC hP (by have:=bC.gV hp;omega));replace aA:=Z_ HB.out.at;have lM:=Z_ hs;clear hr hp hC hP HN;clear hs;have iC:=HB.out.lt;obtain⟨B,hB⟩:∃ B,u9.heap.size=B:=⟨_,rfl⟩;rw [hB] at iC;have HN:=Z_ (ih n (Nat.le_refl _) (.place s9) _ _ aA.out.pr HM.out rfl lM.out (Out.bg HT.out ig.out));go_wp2_with fail
        refine HN.out.mono ?_
        rintro e u10 hr;obtain⟨hC,⟨lb,hp,rfl⟩|⟨x10,l10,v10,hp,rfl,hv,hP⟩⟩:=hr.cases (Out.bg HT.out ig.out)
        ·have HF:=Z_ (Out.aF HT.out hp)
         have HC:=Z_ (aA.out.aO.then hC);clear hr hp hC;go_wp2_with fail
         exact⟨rfl,dZ.fails HC.out HF.out⟩
        replace HT:=Z_ (Out.aG HT.out hp);have VX:=Z_ ((show _ from bC.dJ _ _ _ _ _ hp));replace HB:=Z_ (HB.out.call hC hP (by have:=bC.dJ _ _ _ _ _ hp;omega));replace aA:=Z_ HB.out.at;obtain⟨MZ,M_,Na,Nc,Nh,Nj,rfl⟩:=bU hv;have BR:=Z_ hv;have EF:u9.heap.size≤u10.heap.size:=hC.size;clear hr hp hC hP hv HN;rw [hB] at BR EF;have HG:=Z_ (lI BR.out (by omega:N+1≤B) EF (c:=#[.int .i64 MZ,.string M_,.int .i64 Na,.slice Nc Nh Nj]) rfl);have eM:=(aB.refl (fun _=>False) u10).alloc (.cells #[.int .i64 MZ,.string M_,.int .i64 Na,.slice Nc Nh Nj] 24);replace HB:=Z_ (HB.out.extend eM);replace aA:=Z_ HB.out.at;clear eM;go_wp2_with fail
        refine(dG _ _ _ _ _ _ _).mono ?_
        rintro e u11 ⟨rfl,hE⟩;replace HB:=Z_ (HB.out.extend hE);replace aA:=Z_ HB.out.at;replace HG:=Z_ (HG.out.aO fZ hE (fun _ h=>h.elim));have n0:=HB.out.nd.cell;have nf:=HB.out.nd.frozen;have nl:=HB.out.nd.lt;go_upto_region 3 with (fail)
        replace HB:=Z_ (HB.out.put (kind:=8) (text:=⟨#[]⟩) (num:=0) HG.out (by simp only [List.length_singleton];have:=HLEN.out;have:=ab4.out;have:=VX.out;omega));replace aA:=Z_ HB.out.at;clear n0 nf nl hE HG;generalize (((u11.setCell ⟨N,0,none⟩ (.int .i64 8)).setCell ⟨N,1,none⟩ (.string ⟨#[]⟩)).setCell ⟨N,2,none⟩ (.int .i64 0)).setCell ⟨N,3,none⟩ (.slice (some ⟨u10.heap.size,0,none⟩) 1 1)=v11 at *;have HN:=Z_ (cg (aA.out.pr.alloc (.cells #[.string Kw] 9)) v11.heap.size 1 Kw ((aH.made v11 #[.string Kw] 9).cell 0));have eM:=(aB.refl (fun _=>False) v11).alloc (.cells #[.string Kw] 9);replace HB:=Z_ (HB.out.extend eM);replace aA:=Z_ HB.out.at;clear eM;go_wp2_with fail
        refine HN.out.mono ?_
        rintro e u12 hr;obtain⟨hC,⟨lb,hp,rfl⟩|⟨_,l12,_,hp,rfl,rfl,hP⟩⟩:=hr.cases (dh _ _)
        ·have HF:=Z_ (Out.aF HT.out hp)
         have HC:=Z_ (aA.out.aO.then hC);clear hr hp hC;go_wp2_with fail
         exact⟨rfl,dZ.fails HC.out HF.out⟩
        replace HT:=Z_ (Out.aG HT.out hp);have ab_:=Z_ (bC.aV hp);replace HB:=Z_ (HB.out.call hC hP (by have:=bC.aV hp;omega));replace aA:=Z_ HB.out.at;clear hr hp hC hP HN;go_upto_region 4 with (fail)
        refine ah [3,4,5,7] (fun i v _=>v=([.pointer (some ⟨N,3,none⟩),(.slice (some ⟨u10.heap.size,0,none⟩) 1 1),.pointer (some ⟨S,0,none⟩),undef,undef,undef,.pointer (some ⟨N,3,none⟩),undef]:List Value).getD i undef) (fK W w S E A N l12 8 ⟨#[]⟩ 0 (.slice (some ⟨u10.heap.size,0,none⟩) 1 1) [x10] (bJ n .expr l12)) (fun _ _=>True) (frame:=?Bd) (fun x=>?o7) mixed (by kernel_rfl) (by kernel_rfl) (fun _ _ _ _ h _=>h) ?Be ?Bf ?o8
        case o7=>
         simp only [chain.aK,chain.fill,chain.bf,chain.aW,jJ,jK,jL,jM,jO,jP,jQ,jR,jS];exact rfl
        case Be=>exact HB.out.extend (aB.refl _ _).drew
        case Bf=>
         iterate 8 (refine ai.cons (fun x vs u hF hm hb hd K' hK'=>?_) ?_;rotate_left)
         exact ai.nil
         ·have HF:=Z_ hF;clear hd hm hb hF;go_simp;exact hK'.out _ _ _ rfl trivial ⟨rfl,HF.out⟩
         ·have y0:x 16=.pointer (some ⟨N,3,none⟩):=(D_ hd 0 :);have hc:=hF.cell (by have:=hb 2 _ (by decide) rfl (by kernel_rfl);omega);have HF:=Z_ hF;clear hd hm hb hF;go_simp;exact hK'.out _ _ _ (by simp only [y0];rfl) trivial ⟨rfl,HF.out⟩
         ·have HF:=Z_ hF;clear hd hm hb hF;go_simp;exact hK'.out _ _ _ rfl trivial ⟨rfl,HF.out⟩
         ·have y0:x 18=.pointer (some ⟨S,0,none⟩):=(D_ hd 2 :);obtain rfl:=kF hm;have HF:=Z_ (show iT _ _ _ _ _ _ _ _ _ _ _ _ _ _ from hF);clear hd hm hb hF;have jv:=Z_ (ih n (Nat.le_refl _) .expr _ _ HF.out.pr HM.out rfl trivial (Out.bg HT.out ig.out));go_simp;refine jv.out.mono ?_
          rintro e u2 hr;obtain⟨hC,⟨lb,hp,rfl⟩|⟨xn,ln,v,hp,rfl,hv,hP⟩⟩:=hr.cases (Out.bg HT.out ig.out)
          ·have HE:=Z_ (Out.aF HT.out hp)
           have HC:=Z_ (HF.out.aO.then hC);clear hr hp hC hK' jv;go_wp2_with fail
           exact⟨rfl,dZ.fails HC.out HE.out⟩
          ·exact hK'.out _ _ _ (by simp only [y0];rfl) trivial (f_ HF.out hC hp hv hP (bC.dJ _ _ _ _ _ hp))
         ·obtain⟨v0,rfl⟩:=lK hm
          have y0:x 19=v0:=((D_ hd 3) 19 (by kernel_rfl) :);have hcl:∃ a b c d,v0=.agg #[a,b,c,d]:=by obtain⟨xn,ln,_,_,_,hx⟩:=hF;obtain⟨a,b,c,d,h,_⟩:=bz hx;exact⟨a,b,c,d,h⟩
          obtain⟨a0,b0,c0,d0,rfl⟩:=hcl;have HF:=Z_ hF;clear hd hm hb hF;go_simp;exact hK'.out _ _ _ (by simp only [y0];rfl) trivial (dO HF.out rfl)
         ·obtain⟨v0,v1,rfl⟩:=qX hm
          have y0:x 17=(.slice (some ⟨u10.heap.size,0,none⟩) 1 1):=(D_ hd 1 :);have y1:x 20=v1:=((D_ hd 4) 20 (by kernel_rfl) :);have hF2:=hF;obtain⟨xn,ln,hT1,aP,hfew,hx,gg,rfl,hgb,hgr⟩:=hF2;obtain⟨us,hu1,ho,hu3⟩:=aP.grow.ex;have hlt:=aP.lt;obtain⟨jc,jd,hz0,hz1,hz2⟩:=aX eP;refine wp_append_lies _ _ _ 22 rfl (N+1) 24 jc (.agg #[.int .i64 0,.string ⟨#[]⟩,.int .i64 0,.slice none 0 0]) 4 56 Tryz.underlying22 jd hz0 hz1 hz2 rfl (by decide) (.slice (some ⟨u10.heap.size,0,none⟩) 1 1) [x10].length (us.flatMap fun u=>u.cells.toList) y0 ho ⟨gg,0,none⟩ 1 1 v0.cells.toList y1 (by rw [Array.length_toList,fA hx]) ?_ (by obtain⟨a,b,c,d,e,e2,p1,p2,p3,p4⟩:=bz hx;rw [e2];intro q hq;simp at hq;rcases hq with rfl|rfl|rfl|rfl<;>assumption) (by decide) (by unfold maxLen;omega) (by omega) (by omega) u.heap.size rfl ?_
          ·intro j q hj;have e:(⟨gg,0,none⟩:Addr).add j=⟨gg,j,none⟩:=(by unfold Addr.add;split<;>simp_all);rw [e,hgb.cell];simpa using hj
          ·intro g9 c9 w9 iQ iJ jU qF
           exact hK'.out _ _ _ rfl trivial (push_append hF hu1 hu3 iQ iJ jU)
         ·have HF:=Z_ hF;clear hd hm hb hF;go_simp;exact hK'.out _ _ _ rfl trivial ⟨rfl,HF.out⟩
         ·obtain⟨v0,v1,v2,rfl⟩:=xy hm
          have y0:x 22=.pointer (some ⟨N,3,none⟩):=(D_ hd 6 :);have y1:x 21=v2:=((D_ hd 5) 21 (by kernel_rfl) :);have hF2:=hF;obtain⟨xn,ln,hT1,aP,gg,cc,rfl⟩:=hF2;have hc:=aP.nd.cell 3;have hf:=aP.nd.frozen 3;have hl:=aP.lt;simp at hc
          have HF:=Z_ hF;clear hd hm hb hF aP hT1;go_simp;exact hK'.out _ _ undef (by simp only [y0,y1];rfl) trivial (dP HF.out)
        case o8=>
         intro x vs w9 hl hF hk;obtain⟨v0,v1,v2,v3,rfl⟩:=xA hl
         obtain⟨xna,lna,hT1,jG⟩:=hF;clear hk hl;replace HT:=Z_ (Out.aG HT.out hT1.out);replace HB:=Z_ jG;replace aA:=Z_ HB.out.at;clear hT1 jG;have HT0:=HT.out;clear HT;unfold jY at HT0;have HT:=Z_ HT0;clear HT0;have HN:=Z_ (cg (aA.out.pr.alloc (.cells #[.string cO] 9)) w9.heap.size 1 cO ((aH.made w9 #[.string cO] 9).cell 0));have eM:=(aB.refl (fun _=>False) w9).alloc (.cells #[.string cO] 9);replace HB:=Z_ (HB.out.extend eM);replace aA:=Z_ HB.out.at;clear eM;go_wp2_with fail
         refine HN.out.mono ?_
         rintro e u13 hr;obtain⟨hC,⟨lb,hp,rfl⟩|⟨_,l13,_,hp,rfl,rfl,hP⟩⟩:=hr.cases (dh _ _)
         ·have HF:=Z_ (Out.aF HT.out hp)
          have HC:=Z_ (aA.out.aO.then hC);clear hr hp hC;go_wp2_with fail
          exact⟨rfl,dZ.fails HC.out HF.out⟩
         replace HT:=Z_ (Out.aG HT.out hp);have Oj:=Z_ (bC.aV hp);replace HB:=Z_ (HB.out.call hC hP (by have:=bC.aV hp;omega));replace aA:=Z_ HB.out.at;clear hr hp hC hP HN;obtain⟨ra,rn,rc,hrow⟩:=HB.out.slice3
         first|subst hrow|clear hrow
         have c0:=HB.out.nd.cell 0;have c1:=HB.out.nd.cell 1;have c2:=HB.out.nd.cell 2;have c3:=HB.out.nd.cell 3;have r0:=HB.out.res.cell;have rf:=HB.out.res.frozen;have rl:=HB.out.res.lt;unfold bQ at r0;simp at c0 c1 c2 c3
         go_wp2_with fail
         refine bD rfl rfl rfl ((((HB.out.res.set 0 _).set 1 _).set 2 _).set 3 _) Tryz.underlying24 rfl (by kernel_rfl) ?_
         exact HB.out.ret (by decide) (HT.out.symm) _ _ _ _
       | true=>
        have Oj:=Z_ (gI.out rfl);replace hP:bu W u8 S E l.tail:=by simpa using hP
        have HT0:=HT.out;clear HT;simp only [↓reduceIte] at HT0;have HT:=Z_ HT0;clear HT0;replace HB:=Z_ (HB.out.call hC hP (by have:=gI.out rfl;omega));replace aA:=Z_ HB.out.at;clear hC hP HH gI;have iC:=HB.out.lt;obtain⟨B,hB⟩:∃ B,u8.heap.size=B:=⟨_,rfl⟩;rw [hB] at iC;have HN:=Z_ (ih n (Nat.le_refl _) (.expr) _ _ aA.out.pr HM.out rfl trivial (Out.bg HT.out ig.out));go_wp2_with fail
        refine HN.out.mono ?_
        rintro e u14 hr;obtain⟨hC,⟨lb,hp,rfl⟩|⟨x14,QF,v14,hp,rfl,hv,hP⟩⟩:=hr.cases (Out.bg HT.out ig.out)
        ·have HF:=Z_ (Out.aF HT.out hp)
         have HC:=Z_ (aA.out.aO.then hC);clear hr hp hC;go_wp2_with fail
         exact⟨rfl,dZ.fails HC.out HF.out⟩
        replace HT:=Z_ (Out.aG HT.out hp);have VY:=Z_ ((show _ from bC.dJ _ _ _ _ _ hp));replace HB:=Z_ (HB.out.call hC hP (by have:=bC.dJ _ _ _ _ _ hp;omega));replace aA:=Z_ HB.out.at;obtain⟨VZ,V3,V4,V5,V6,V7,rfl⟩:=bU hv;have V8:=Z_ hv;have Ol:u8.heap.size≤u14.heap.size:=hC.size;clear hr hp hC hP hv HN;rw [hB] at V8 Ol;have HG:=Z_ (lI V8.out (by omega:N+1≤B) Ol (c:=#[.int .i64 VZ,.string V3,.int .i64 V4,.slice V5 V6 V7]) rfl);have eM:=(aB.refl (fun _=>False) u14).alloc (.cells #[.int .i64 VZ,.string V3,.int .i64 V4,.slice V5 V6 V7] 24);replace HB:=Z_ (HB.out.extend eM);replace aA:=Z_ HB.out.at;clear eM;go_wp2_with fail
        refine(dG _ _ _ _ _ _ _).mono ?_
        rintro e u15 ⟨rfl,hE⟩;replace HB:=Z_ (HB.out.extend hE);replace aA:=Z_ HB.out.at;replace HG:=Z_ (HG.out.aO fZ hE (fun _ h=>h.elim));have n0:=HB.out.nd.cell;have nf:=HB.out.nd.frozen;have nl:=HB.out.nd.lt;go_upto_region 30 with (fail)
        replace HB:=Z_ (HB.out.put (kind:=14) (text:=⟨#[]⟩) (num:=0) HG.out (by simp only [List.length_singleton];have:=HLEN.out;have:=Oj.out;have:=VY.out;omega));replace aA:=Z_ HB.out.at;clear n0 nf nl hE HG;generalize (((u15.setCell ⟨N,0,none⟩ (.int .i64 14)).setCell ⟨N,1,none⟩ (.string ⟨#[]⟩)).setCell ⟨N,2,none⟩ (.int .i64 0)).setCell ⟨N,3,none⟩ (.slice (some ⟨u14.heap.size,0,none⟩) 1 1)=v15 at *;have HT0:=HT.out;clear HT;unfold jY at HT0;have HT:=Z_ HT0;clear HT0;have HN:=Z_ (cg (aA.out.pr.alloc (.cells #[.string cO] 9)) v15.heap.size 1 cO ((aH.made v15 #[.string cO] 9).cell 0));have eM:=(aB.refl (fun _=>False) v15).alloc (.cells #[.string cO] 9);replace HB:=Z_ (HB.out.extend eM);replace aA:=Z_ HB.out.at;clear eM;go_wp2_with fail
        refine HN.out.mono ?_
        rintro e u16 hr;obtain⟨hC,⟨lb,hp,rfl⟩|⟨_,l16,_,hp,rfl,rfl,hP⟩⟩:=hr.cases (dh _ _)
        ·have HF:=Z_ (Out.aF HT.out hp)
         have HC:=Z_ (aA.out.aO.then hC);clear hr hp hC;go_wp2_with fail
         exact⟨rfl,dZ.fails HC.out HF.out⟩
        replace HT:=Z_ (Out.aG HT.out hp);have ac0:=Z_ (bC.aV hp);replace HB:=Z_ (HB.out.call hC hP (by have:=bC.aV hp;omega));replace aA:=Z_ HB.out.at;clear hr hp hC hP HN;obtain⟨ra,rn,rc,hrow⟩:=HB.out.slice3
        first|subst hrow|clear hrow
        have c0:=HB.out.nd.cell 0;have c1:=HB.out.nd.cell 1;have c2:=HB.out.nd.cell 2;have c3:=HB.out.nd.cell 3;have r0:=HB.out.res.cell;have rf:=HB.out.res.frozen;have rl:=HB.out.res.lt;unfold bQ at r0;simp at c0 c1 c2 c3
        go_wp2_with fail
        refine bD rfl rfl rfl ((((HB.out.res.set 0 _).set 1 _).set 2 _).set 3 _) Tryz.underlying24 rfl (by kernel_rfl) ?_
        exact HB.out.ret (by decide) (HT.out.symm) _ _ _ _
      | true=>
       have V9:=Z_ (gI.out rfl);replace hP:bu W u7 S E l.tail:=by simpa using hP
       have HT0:=HT.out;clear HT;simp only [↓reduceIte] at HT0;have HT:=Z_ HT0;clear HT0;replace HB:=Z_ (HB.out.call hC hP (by have:=gI.out rfl;omega));replace aA:=Z_ HB.out.at;clear hC hP HH gI;have HN:=Z_ (dD aA.out.pr);go_wp2_with fail
       refine HN.out.mono ?_
       rintro e u18 hr;obtain⟨hC,⟨lb,hp,rfl⟩|⟨b18,l18,v,hp,rfl,⟨rfl,hb0,hb1⟩,hP⟩⟩:=hr.cases (iZ _)
       ·have HF:=Z_ (Out.aF HT.out hp)
        have HC:=Z_ (aA.out.aO.then hC);clear hr hp hC;go_wp2_with fail
        exact⟨rfl,dZ.fails HC.out HF.out⟩
       replace HT:=Z_ (Out.aG HT.out hp);have V_:=Z_ (bC.dL hp);replace HB:=Z_ (HB.out.call hC hP (by have:=bC.dL hp;omega));replace aA:=Z_ HB.out.at;have CG:=Z_ (And.intro hb0 hb1);clear hr hp hC hP HN;clear hb0 hb1;have HN:=Z_ (p_ aA.out.pr HM.out);go_wp2_with fail
       refine HN.out.mono ?_
       rintro e u19 hr;obtain⟨hC,⟨lb,hp,rfl⟩|⟨s19,l19,v,hp,rfl,⟨rfl,hs⟩,hP⟩⟩:=hr.cases (qg _)
       ·have HF:=Z_ (Out.aF HT.out hp)
        have HC:=Z_ (aA.out.aO.then hC);clear hr hp hC;go_wp2_with fail
        exact⟨rfl,dZ.fails HC.out HF.out⟩
       replace HT:=Z_ (Out.aG HT.out hp);have We:=Z_ (bC.gV hp);replace HB:=Z_ (HB.out.call hC hP (by have:=bC.gV hp;omega));replace aA:=Z_ HB.out.at;have lM:=Z_ hs;clear hr hp hC hP HN;clear hs;have iC:=HB.out.lt;obtain⟨B,hB⟩:∃ B,u19.heap.size=B:=⟨_,rfl⟩;rw [hB] at iC;have HN:=Z_ (ih n (Nat.le_refl _) (.place s19) _ _ aA.out.pr HM.out rfl lM.out (Out.bg HT.out ig.out));go_wp2_with fail
       refine HN.out.mono ?_
       rintro e u20 hr;obtain⟨hC,⟨lb,hp,rfl⟩|⟨x20,l20,v20,hp,rfl,hv,hP⟩⟩:=hr.cases (Out.bg HT.out ig.out)
       ·have HF:=Z_ (Out.aF HT.out hp)
        have HC:=Z_ (aA.out.aO.then hC);clear hr hp hC;go_wp2_with fail
        exact⟨rfl,dZ.fails HC.out HF.out⟩
       replace HT:=Z_ (Out.aG HT.out hp);have Wh:=Z_ ((show _ from bC.dJ _ _ _ _ _ hp));replace HB:=Z_ (HB.out.call hC hP (by have:=bC.dJ _ _ _ _ _ hp;omega));replace aA:=Z_ HB.out.at;obtain⟨QG,QH,QI,QJ,QK,QL,rfl⟩:=bU hv;have JP:=Z_ hv;have JQ:u19.heap.size≤u20.heap.size:=hC.size;clear hr hp hC hP hv HN;rw [hB] at JP JQ;have HG:=Z_ (lI JP.out (by omega:N+1≤B) JQ (c:=#[.int .i64 QG,.string QH,.int .i64 QI,.slice QJ QK QL]) rfl);have eM:=(aB.refl (fun _=>False) u20).alloc (.cells #[.int .i64 QG,.string QH,.int .i64 QI,.slice QJ QK QL] 24);replace HB:=Z_ (HB.out.extend eM);replace aA:=Z_ HB.out.at;clear eM;go_wp2_with fail
       refine(dG _ _ _ _ _ _ _).mono ?_
       rintro e u21 ⟨rfl,hE⟩;replace HB:=Z_ (HB.out.extend hE);replace aA:=Z_ HB.out.at;replace HG:=Z_ (HG.out.aO fZ hE (fun _ h=>h.elim));have n0:=HB.out.nd.cell;have nf:=HB.out.nd.frozen;have nl:=HB.out.nd.lt;go_upto_region 30 with (fail)
       replace HB:=Z_ (HB.out.put (kind:=13) (text:=⟨#[]⟩) (num:=b18) HG.out (by simp only [List.length_singleton];have:=HLEN.out;have:=V9.out;have:=V_.out;have:=We.out;have:=Wh.out;omega));replace aA:=Z_ HB.out.at;clear n0 nf nl hE HG;generalize (((u21.setCell ⟨N,0,none⟩ (.int .i64 13)).setCell ⟨N,1,none⟩ (.string ⟨#[]⟩)).setCell ⟨N,2,none⟩ (.int .i64 b18)).setCell ⟨N,3,none⟩ (.slice (some ⟨u20.heap.size,0,none⟩) 1 1)=v21 at *;have HT0:=HT.out;clear HT;unfold jY at HT0;have HT:=Z_ HT0;clear HT0;have HN:=Z_ (cg (aA.out.pr.alloc (.cells #[.string cO] 9)) v21.heap.size 1 cO ((aH.made v21 #[.string cO] 9).cell 0));have eM:=(aB.refl (fun _=>False) v21).alloc (.cells #[.string cO] 9);replace HB:=Z_ (HB.out.extend eM);replace aA:=Z_ HB.out.at
       clear eM;go_wp2_with fail
       refine HN.out.mono ?_
       rintro e u22 hr;obtain⟨hC,⟨lb,hp,rfl⟩|⟨_,l22,_,hp,rfl,rfl,hP⟩⟩:=hr.cases (dh _ _)
       ·have HF:=Z_ (Out.aF HT.out hp)
        have HC:=Z_ (aA.out.aO.then hC);clear hr hp hC;go_wp2_with fail
        exact⟨rfl,dZ.fails HC.out HF.out⟩
       replace HT:=Z_ (Out.aG HT.out hp);have ac1:=Z_ (bC.aV hp);replace HB:=Z_ (HB.out.call hC hP (by have:=bC.aV hp;omega));replace aA:=Z_ HB.out.at;clear hr hp hC hP HN;obtain⟨ra,rn,rc,hrow⟩:=HB.out.slice3
       first|subst hrow|clear hrow
       have c0:=HB.out.nd.cell 0;have c1:=HB.out.nd.cell 1;have c2:=HB.out.nd.cell 2;have c3:=HB.out.nd.cell 3;have r0:=HB.out.res.cell;have rf:=HB.out.res.frozen;have rl:=HB.out.res.lt;unfold bQ at r0;simp at c0 c1 c2 c3
       go_wp2_with fail
       refine bD rfl rfl rfl ((((HB.out.res.set 0 _).set 1 _).set 2 _).set 3 _) Tryz.underlying24 rfl (by kernel_rfl) ?_
       exact HB.out.ret (by decide) (HT.out.symm) _ _ _ _
     | true=>
      have Wi:=Z_ (gI.out rfl);replace hP:bu W u6 S E l.tail:=by simpa using hP
      have HT0:=HT.out;clear HT;simp only [↓reduceIte] at HT0;have HT:=Z_ HT0;clear HT0;replace HB:=Z_ (HB.out.call hC hP (by have:=gI.out rfl;omega));replace aA:=Z_ HB.out.at;clear hC hP HH gI;have HN:=Z_ (dD aA.out.pr);go_wp2_with fail
      refine HN.out.mono ?_
      rintro e u24 hr;obtain⟨hC,⟨lb,hp,rfl⟩|⟨b24,l24,v,hp,rfl,⟨rfl,hb0,hb1⟩,hP⟩⟩:=hr.cases (iZ _)
      ·have HF:=Z_ (Out.aF HT.out hp)
       have HC:=Z_ (aA.out.aO.then hC);clear hr hp hC;go_wp2_with fail
       exact⟨rfl,dZ.fails HC.out HF.out⟩
      replace HT:=Z_ (Out.aG HT.out hp);have Wj:=Z_ (bC.dL hp);replace HB:=Z_ (HB.out.call hC hP (by have:=bC.dL hp;omega));replace aA:=Z_ HB.out.at;have CG:=Z_ (And.intro hb0 hb1);clear hr hp hC hP HN;clear hb0 hb1;have iC:=HB.out.lt;obtain⟨B,hB⟩:∃ B,u24.heap.size=B:=⟨_,rfl⟩;rw [hB] at iC;have HN:=Z_ (ih n (Nat.le_refl _) (.expr) _ _ aA.out.pr HM.out rfl trivial (Out.bg HT.out ig.out));go_wp2_with fail
      refine HN.out.mono ?_
      rintro e u25 hr;obtain⟨hC,⟨lb,hp,rfl⟩|⟨x25,l25,v25,hp,rfl,hv,hP⟩⟩:=hr.cases (Out.bg HT.out ig.out)
      ·have HF:=Z_ (Out.aF HT.out hp)
       have HC:=Z_ (aA.out.aO.then hC);clear hr hp hC;go_wp2_with fail
       exact⟨rfl,dZ.fails HC.out HF.out⟩
      replace HT:=Z_ (Out.aG HT.out hp);have Wl:=Z_ ((show _ from bC.dJ _ _ _ _ _ hp));replace HB:=Z_ (HB.out.call hC hP (by have:=bC.dJ _ _ _ _ _ hp;omega));replace aA:=Z_ HB.out.at;obtain⟨Wn,Wp,Wq,Ws,Wu,Wv,rfl⟩:=bU hv;have Wx:=Z_ hv;have Om:u24.heap.size≤u25.heap.size:=hC.size;clear hr hp hC hP hv HN;rw [hB] at Wx Om;have HG:=Z_ (lI Wx.out (by omega:N+1≤B) Om (c:=#[.int .i64 Wn,.string Wp,.int .i64 Wq,.slice Ws Wu Wv]) rfl);have eM:=(aB.refl (fun _=>False) u25).alloc (.cells #[.int .i64 Wn,.string Wp,.int .i64 Wq,.slice Ws Wu Wv] 24);replace HB:=Z_ (HB.out.extend eM);replace aA:=Z_ HB.out.at;clear eM;go_wp2_with fail
      refine(dG _ _ _ _ _ _ _).mono ?_
      rintro e u26 ⟨rfl,hE⟩;replace HB:=Z_ (HB.out.extend hE);replace aA:=Z_ HB.out.at;replace HG:=Z_ (HG.out.aO fZ hE (fun _ h=>h.elim));have n0:=HB.out.nd.cell;have nf:=HB.out.nd.frozen;have nl:=HB.out.nd.lt;go_upto_region 30 with (fail)
      replace HB:=Z_ (HB.out.put (kind:=12) (text:=⟨#[]⟩) (num:=b24) HG.out (by simp only [List.length_singleton];have:=HLEN.out;have:=Wi.out;have:=Wj.out;have:=Wl.out;omega));replace aA:=Z_ HB.out.at;clear n0 nf nl hE HG;generalize (((u26.setCell ⟨N,0,none⟩ (.int .i64 12)).setCell ⟨N,1,none⟩ (.string ⟨#[]⟩)).setCell ⟨N,2,none⟩ (.int .i64 b24)).setCell ⟨N,3,none⟩ (.slice (some ⟨u25.heap.size,0,none⟩) 1 1)=v26 at *;have HT0:=HT.out;clear HT;unfold jY at HT0;have HT:=Z_ HT0;clear HT0;have HN:=Z_ (cg (aA.out.pr.alloc (.cells #[.string cO] 9)) v26.heap.size 1 cO ((aH.made v26 #[.string cO] 9).cell 0));have eM:=(aB.refl (fun _=>False) v26).alloc (.cells #[.string cO] 9);replace HB:=Z_ (HB.out.extend eM);replace aA:=Z_ HB.out.at;clear eM
      go_wp2_with fail
      refine HN.out.mono ?_
      rintro e u27 hr;obtain⟨hC,⟨lb,hp,rfl⟩|⟨_,l27,_,hp,rfl,rfl,hP⟩⟩:=hr.cases (dh _ _)
      ·have HF:=Z_ (Out.aF HT.out hp)
       have HC:=Z_ (aA.out.aO.then hC);clear hr hp hC;go_wp2_with fail
       exact⟨rfl,dZ.fails HC.out HF.out⟩
      replace HT:=Z_ (Out.aG HT.out hp);have ac2:=Z_ (bC.aV hp);replace HB:=Z_ (HB.out.call hC hP (by have:=bC.aV hp;omega));replace aA:=Z_ HB.out.at;clear hr hp hC hP HN;obtain⟨ra,rn,rc,hrow⟩:=HB.out.slice3
      first|subst hrow|clear hrow
      have c0:=HB.out.nd.cell 0;have c1:=HB.out.nd.cell 1;have c2:=HB.out.nd.cell 2;have c3:=HB.out.nd.cell 3;have r0:=HB.out.res.cell;have rf:=HB.out.res.frozen;have rl:=HB.out.res.lt;unfold bQ at r0;simp at c0 c1 c2 c3
      go_wp2_with fail
      refine bD rfl rfl rfl ((((HB.out.res.set 0 _).set 1 _).set 2 _).set 3 _) Tryz.underlying24 rfl (by kernel_rfl) ?_
      exact HB.out.ret (by decide) (HT.out.symm) _ _ _ _
    | true=>
     have Wy:=Z_ (gI.out rfl);replace hP:bu W u5 S E l.tail:=by simpa using hP
     have HT0:=HT.out;clear HT;simp only [↓reduceIte] at HT0;have HT:=Z_ HT0;clear HT0;replace HB:=Z_ (HB.out.call hC hP (by have:=gI.out rfl;omega));replace aA:=Z_ HB.out.at;clear hC hP HH gI;have iC:=HB.out.lt;obtain⟨B,hB⟩:∃ B,u5.heap.size=B:=⟨_,rfl⟩;rw [hB] at iC;have HN:=Z_ (ih n (Nat.le_refl _) (.asked) _ _ aA.out.pr HM.out rfl trivial (Out.bg HT.out ig.out));go_wp2_with fail
     refine HN.out.mono ?_
     rintro e u29 hr;obtain⟨hC,⟨lb,hp,rfl⟩|⟨x29,l29,v29,hp,rfl,hv,hP⟩⟩:=hr.cases (Out.bg HT.out ig.out)
     ·have HF:=Z_ (Out.aF HT.out hp)
      have HC:=Z_ (aA.out.aO.then hC);clear hr hp hC;go_wp2_with fail
      exact⟨rfl,dZ.fails HC.out HF.out⟩
     replace HT:=Z_ (Out.aG HT.out hp);have WA:=Z_ ((show _ from bC.dJ _ _ _ _ _ hp));replace HB:=Z_ (HB.out.call hC hP (by have:=bC.dJ _ _ _ _ _ hp;omega));replace aA:=Z_ HB.out.at;obtain⟨WB,WC,WE,WG,WH,WI,rfl⟩:=bU hv;have WJ:=Z_ hv;have Oo:u5.heap.size≤u29.heap.size:=hC.size;clear hr hp hC hP hv HN;rw [hB] at WJ Oo;have HG:=Z_ (lI WJ.out (by omega:N+1≤B) Oo (c:=#[.int .i64 WB,.string WC,.int .i64 WE,.slice WG WH WI]) rfl);have eM:=(aB.refl (fun _=>False) u29).alloc (.cells #[.int .i64 WB,.string WC,.int .i64 WE,.slice WG WH WI] 24);replace HB:=Z_ (HB.out.extend eM);replace aA:=Z_ HB.out.at;clear eM;go_wp2_with fail
     refine(dG _ _ _ _ _ _ _).mono ?_
     rintro e u30 ⟨rfl,hE⟩;replace HB:=Z_ (HB.out.extend hE);replace aA:=Z_ HB.out.at;replace HG:=Z_ (HG.out.aO fZ hE (fun _ h=>h.elim));have n0:=HB.out.nd.cell;have nf:=HB.out.nd.frozen;have nl:=HB.out.nd.lt;go_upto_region 20 with (fail)
     replace HB:=Z_ (HB.out.put (kind:=11) (text:=⟨#[]⟩) (num:=0) HG.out (by simp only [List.length_singleton];have:=HLEN.out;have:=Wy.out;have:=WA.out;omega));replace aA:=Z_ HB.out.at;clear n0 nf nl hE HG;generalize (((u30.setCell ⟨N,0,none⟩ (.int .i64 11)).setCell ⟨N,1,none⟩ (.string ⟨#[]⟩)).setCell ⟨N,2,none⟩ (.int .i64 0)).setCell ⟨N,3,none⟩ (.slice (some ⟨u29.heap.size,0,none⟩) 1 1)=v30 at *;go_upto_region 20 with (fail)
     refine ah [3,4,5,7] (fun i v _=>v=([.pointer (some ⟨N,3,none⟩),(.slice (some ⟨u29.heap.size,0,none⟩) 1 1),.pointer (some ⟨S,0,none⟩),undef,undef,undef,.pointer (some ⟨N,3,none⟩),undef]:List Value).getD i undef) (fK W w S E A N l29 11 ⟨#[]⟩ 0 (.slice (some ⟨u29.heap.size,0,none⟩) 1 1) [x29] (bJ n .block l29)) (fun _ _=>True) (frame:=?Ah) (fun x=>?oQ) mixed (by kernel_rfl) (by kernel_rfl) (fun _ _ _ _ h _=>h) ?Ai ?Aj ?oU
     case oQ=>
      simp only [chain.aK,chain.fill,chain.bf,chain.aW,jJ,jK,jL,jM,jO,jP,jQ,jR,jS];exact rfl
     case Ai=>exact HB.out.extend (aB.refl _ _).drew
     case Aj=>
      iterate 8 (refine ai.cons (fun x vs u hF hm hb hd K' hK'=>?_) ?_;rotate_left)
      exact ai.nil
      ·have HF:=Z_ hF;clear hd hm hb hF;go_simp;exact hK'.out _ _ _ rfl trivial ⟨rfl,HF.out⟩
      ·have y0:x 83=.pointer (some ⟨N,3,none⟩):=(D_ hd 0 :);have hc:=hF.cell (by have:=hb 2 _ (by decide) rfl (by kernel_rfl);omega);have HF:=Z_ hF;clear hd hm hb hF;go_simp;exact hK'.out _ _ _ (by simp only [y0];rfl) trivial ⟨rfl,HF.out⟩
      ·have HF:=Z_ hF;clear hd hm hb hF;go_simp;exact hK'.out _ _ _ rfl trivial ⟨rfl,HF.out⟩
      ·have y0:x 85=.pointer (some ⟨S,0,none⟩):=(D_ hd 2 :);obtain rfl:=kF hm;have HF:=Z_ (show iT _ _ _ _ _ _ _ _ _ _ _ _ _ _ from hF);clear hd hm hb hF;have jv:=Z_ (ih n (Nat.le_refl _) .block _ _ HF.out.pr HM.out rfl trivial (Out.bg HT.out ig.out));go_simp;refine jv.out.mono ?_
       rintro e u2 hr;obtain⟨hC,⟨lb,hp,rfl⟩|⟨xn,ln,v,hp,rfl,hv,hP⟩⟩:=hr.cases (Out.bg HT.out ig.out)
       ·have HE:=Z_ (Out.aF HT.out hp)
        have HC:=Z_ (HF.out.aO.then hC);clear hr hp hC hK' jv;go_wp2_with fail
        exact⟨rfl,dZ.fails HC.out HE.out⟩
       ·exact hK'.out _ _ _ (by simp only [y0];rfl) trivial (f_ HF.out hC hp hv hP (bC.dJ _ _ _ _ _ hp))
      ·obtain⟨v0,rfl⟩:=lK hm
       have y0:x 86=v0:=((D_ hd 3) 86 (by kernel_rfl) :);have hcl:∃ a b c d,v0=.agg #[a,b,c,d]:=by obtain⟨xn,ln,_,_,_,hx⟩:=hF;obtain⟨a,b,c,d,h,_⟩:=bz hx;exact⟨a,b,c,d,h⟩
       obtain⟨a0,b0,c0,d0,rfl⟩:=hcl;have HF:=Z_ hF;clear hd hm hb hF;go_simp;exact hK'.out _ _ _ (by simp only [y0];rfl) trivial (dO HF.out rfl)
      ·obtain⟨v0,v1,rfl⟩:=qX hm
       have y0:x 84=(.slice (some ⟨u29.heap.size,0,none⟩) 1 1):=(D_ hd 1 :);have y1:x 87=v1:=((D_ hd 4) 87 (by kernel_rfl) :);have hF2:=hF;obtain⟨xn,ln,hT1,aP,hfew,hx,gg,rfl,hgb,hgr⟩:=hF2;obtain⟨us,hu1,ho,hu3⟩:=aP.grow.ex;have hlt:=aP.lt;obtain⟨jc,jd,hz0,hz1,hz2⟩:=aX eP;refine wp_append_lies _ _ _ 22 rfl (N+1) 24 jc (.agg #[.int .i64 0,.string ⟨#[]⟩,.int .i64 0,.slice none 0 0]) 4 56 Tryz.underlying22 jd hz0 hz1 hz2 rfl (by decide) (.slice (some ⟨u29.heap.size,0,none⟩) 1 1) [x29].length (us.flatMap fun u=>u.cells.toList) y0 ho ⟨gg,0,none⟩ 1 1 v0.cells.toList y1 (by rw [Array.length_toList,fA hx]) ?_ (by obtain⟨a,b,c,d,e,e2,p1,p2,p3,p4⟩:=bz hx;rw [e2];intro q hq;simp at hq;rcases hq with rfl|rfl|rfl|rfl<;>assumption) (by decide) (by unfold maxLen;omega) (by omega) (by omega) u.heap.size rfl ?_
       ·intro j q hj;have e:(⟨gg,0,none⟩:Addr).add j=⟨gg,j,none⟩:=(by unfold Addr.add;split<;>simp_all);rw [e,hgb.cell];simpa using hj
       ·intro g9 c9 w9 iQ iJ jU qF
        exact hK'.out _ _ _ rfl trivial (push_append hF hu1 hu3 iQ iJ jU)
      ·have HF:=Z_ hF;clear hd hm hb hF;go_simp;exact hK'.out _ _ _ rfl trivial ⟨rfl,HF.out⟩
      ·obtain⟨v0,v1,v2,rfl⟩:=xy hm
       have y0:x 89=.pointer (some ⟨N,3,none⟩):=(D_ hd 6 :);have y1:x 88=v2:=((D_ hd 5) 88 (by kernel_rfl) :);have hF2:=hF;obtain⟨xn,ln,hT1,aP,gg,cc,rfl⟩:=hF2;have hc:=aP.nd.cell 3;have hf:=aP.nd.frozen 3;have hl:=aP.lt;simp at hc
       have HF:=Z_ hF;clear hd hm hb hF aP hT1;go_simp;exact hK'.out _ _ undef (by simp only [y0,y1];rfl) trivial (dP HF.out)
     case oU=>
      intro x vs w9 hl hF hk;obtain⟨v0,v1,v2,v3,rfl⟩:=xA hl
      obtain⟨xnb,lnb,hT1,jG⟩:=hF;clear hk hl;replace HT:=Z_ (Out.aG HT.out hT1.out);replace HB:=Z_ jG;replace aA:=Z_ HB.out.at;clear hT1 jG;obtain⟨ra,rn,rc,hrow⟩:=HB.out.slice3
      first|subst hrow|clear hrow
      have c0:=HB.out.nd.cell 0;have c1:=HB.out.nd.cell 1;have c2:=HB.out.nd.cell 2;have c3:=HB.out.nd.cell 3;have r0:=HB.out.res.cell;have rf:=HB.out.res.frozen;have rl:=HB.out.res.lt;unfold bQ at r0;simp at c0 c1 c2 c3
      go_wp2_with fail
      refine bD rfl rfl rfl ((((HB.out.res.set 0 _).set 1 _).set 2 _).set 3 _) Tryz.underlying24 rfl (by kernel_rfl) ?_
      exact HB.out.ret (by decide) (HT.out.symm) _ _ _ _
   | true=>
    have WL:=Z_ (gI.out rfl);replace hP:bu W u4 S E l.tail:=by simpa using hP
    have HT0:=HT.out;clear HT;simp only [↓reduceIte] at HT0;have HT:=Z_ HT0;clear HT0;replace HB:=Z_ (HB.out.call hC hP (by have:=gI.out rfl;omega));replace aA:=Z_ HB.out.at;clear hC hP HH gI;have iC:=HB.out.lt;obtain⟨B,hB⟩:∃ B,u4.heap.size=B:=⟨_,rfl⟩;rw [hB] at iC;have HN:=Z_ (ih n (Nat.le_refl _) (.asked) _ _ aA.out.pr HM.out rfl trivial (Out.bg HT.out ig.out));go_wp2_with fail
    refine HN.out.mono ?_
    rintro e u32 hr;obtain⟨hC,⟨lb,hp,rfl⟩|⟨x32,l32,v32,hp,rfl,hv,hP⟩⟩:=hr.cases (Out.bg HT.out ig.out)
    ·have HF:=Z_ (Out.aF HT.out hp)
     have HC:=Z_ (aA.out.aO.then hC);clear hr hp hC;go_wp2_with fail
     exact⟨rfl,dZ.fails HC.out HF.out⟩
    replace HT:=Z_ (Out.aG HT.out hp);have WM:=Z_ ((show _ from bC.dJ _ _ _ _ _ hp));replace HB:=Z_ (HB.out.call hC hP (by have:=bC.dJ _ _ _ _ _ hp;omega));replace aA:=Z_ HB.out.at;obtain⟨WN,WO,WQ,WR,WS,WT,rfl⟩:=bU hv;have WU:=Z_ hv;have Oq:u4.heap.size≤u32.heap.size:=hC.size;clear hr hp hC hP hv HN;rw [hB] at WU Oq;have HG:=Z_ (lI WU.out (by omega:N+1≤B) Oq (c:=#[.int .i64 WN,.string WO,.int .i64 WQ,.slice WR WS WT]) rfl);have eM:=(aB.refl (fun _=>False) u32).alloc (.cells #[.int .i64 WN,.string WO,.int .i64 WQ,.slice WR WS WT] 24);replace HB:=Z_ (HB.out.extend eM);replace aA:=Z_ HB.out.at;clear eM;go_wp2_with fail
    refine(dG _ _ _ _ _ _ _).mono ?_
    rintro e u33 ⟨rfl,hE⟩;replace HB:=Z_ (HB.out.extend hE);replace aA:=Z_ HB.out.at;replace HG:=Z_ (HG.out.aO fZ hE (fun _ h=>h.elim));have n0:=HB.out.nd.cell;have nf:=HB.out.nd.frozen;have nl:=HB.out.nd.lt;go_upto_region 14 with (fail)
    replace HB:=Z_ (HB.out.put (kind:=10) (text:=⟨#[]⟩) (num:=0) HG.out (by simp only [List.length_singleton];have:=HLEN.out;have:=WL.out;have:=WM.out;omega));replace aA:=Z_ HB.out.at;clear n0 nf nl hE HG;generalize (((u33.setCell ⟨N,0,none⟩ (.int .i64 10)).setCell ⟨N,1,none⟩ (.string ⟨#[]⟩)).setCell ⟨N,2,none⟩ (.int .i64 0)).setCell ⟨N,3,none⟩ (.slice (some ⟨u32.heap.size,0,none⟩) 1 1)=v33 at *;go_upto_region 14 with (fail)
    refine ah [3,4,5,7] (fun i v _=>v=([.pointer (some ⟨N,3,none⟩),(.slice (some ⟨u32.heap.size,0,none⟩) 1 1),.pointer (some ⟨S,0,none⟩),undef,undef,undef,.pointer (some ⟨N,3,none⟩),undef]:List Value).getD i undef) (fK W w S E A N l32 10 ⟨#[]⟩ 0 (.slice (some ⟨u32.heap.size,0,none⟩) 1 1) [x32] (bJ n .block l32)) (fun _ _=>True) (frame:=?KX) (fun x=>?uh) mixed (by kernel_rfl) (by kernel_rfl) (fun _ _ _ _ h _=>h) ?h0c ?KY ?yN
    case uh=>
     simp only [chain.aK,chain.fill,chain.bf,chain.aW,jJ,jK,jL,jM,jO,jP,jQ,jR,jS];exact rfl
    case h0c=>exact HB.out.extend (aB.refl _ _).drew
    case KY=>
     iterate 8 (refine ai.cons (fun x vs u hF hm hb hd K' hK'=>?_) ?_;rotate_left)
     exact ai.nil
     ·have HF:=Z_ hF;clear hd hm hb hF;go_simp;exact hK'.out _ _ _ rfl trivial ⟨rfl,HF.out⟩
     ·have y0:x 59=.pointer (some ⟨N,3,none⟩):=(D_ hd 0 :);have hc:=hF.cell (by have:=hb 2 _ (by decide) rfl (by kernel_rfl);omega);have HF:=Z_ hF;clear hd hm hb hF;go_simp;exact hK'.out _ _ _ (by simp only [y0];rfl) trivial ⟨rfl,HF.out⟩
     ·have HF:=Z_ hF;clear hd hm hb hF;go_simp;exact hK'.out _ _ _ rfl trivial ⟨rfl,HF.out⟩
     ·have y0:x 61=.pointer (some ⟨S,0,none⟩):=(D_ hd 2 :);obtain rfl:=kF hm;have HF:=Z_ (show iT _ _ _ _ _ _ _ _ _ _ _ _ _ _ from hF);clear hd hm hb hF;have jv:=Z_ (ih n (Nat.le_refl _) .block _ _ HF.out.pr HM.out rfl trivial (Out.bg HT.out ig.out));go_simp;refine jv.out.mono ?_
      rintro e u2 hr;obtain⟨hC,⟨lb,hp,rfl⟩|⟨xn,ln,v,hp,rfl,hv,hP⟩⟩:=hr.cases (Out.bg HT.out ig.out)
      ·have HE:=Z_ (Out.aF HT.out hp)
       have HC:=Z_ (HF.out.aO.then hC);clear hr hp hC hK' jv;go_wp2_with fail
       exact⟨rfl,dZ.fails HC.out HE.out⟩
      ·exact hK'.out _ _ _ (by simp only [y0];rfl) trivial (f_ HF.out hC hp hv hP (bC.dJ _ _ _ _ _ hp))
     ·obtain⟨v0,rfl⟩:=lK hm
      have y0:x 62=v0:=((D_ hd 3) 62 (by kernel_rfl) :);have hcl:∃ a b c d,v0=.agg #[a,b,c,d]:=by obtain⟨xn,ln,_,_,_,hx⟩:=hF;obtain⟨a,b,c,d,h,_⟩:=bz hx;exact⟨a,b,c,d,h⟩
      obtain⟨a0,b0,c0,d0,rfl⟩:=hcl;have HF:=Z_ hF;clear hd hm hb hF;go_simp;exact hK'.out _ _ _ (by simp only [y0];rfl) trivial (dO HF.out rfl)
     ·obtain⟨v0,v1,rfl⟩:=qX hm
      have y0:x 60=(.slice (some ⟨u32.heap.size,0,none⟩) 1 1):=(D_ hd 1 :);have y1:x 63=v1:=((D_ hd 4) 63 (by kernel_rfl) :);have hF2:=hF;obtain⟨xn,ln,hT1,aP,hfew,hx,gg,rfl,hgb,hgr⟩:=hF2;obtain⟨us,hu1,ho,hu3⟩:=aP.grow.ex;have hlt:=aP.lt;obtain⟨jc,jd,hz0,hz1,hz2⟩:=aX eP;refine wp_append_lies _ _ _ 22 rfl (N+1) 24 jc (.agg #[.int .i64 0,.string ⟨#[]⟩,.int .i64 0,.slice none 0 0]) 4 56 Tryz.underlying22 jd hz0 hz1 hz2 rfl (by decide) (.slice (some ⟨u32.heap.size,0,none⟩) 1 1) [x32].length (us.flatMap fun u=>u.cells.toList) y0 ho ⟨gg,0,none⟩ 1 1 v0.cells.toList y1 (by rw [Array.length_toList,fA hx]) ?_ (by obtain⟨a,b,c,d,e,e2,p1,p2,p3,p4⟩:=bz hx;rw [e2];intro q hq;simp at hq;rcases hq with rfl|rfl|rfl|rfl<;>assumption) (by decide) (by unfold maxLen;omega) (by omega) (by omega) u.heap.size rfl ?_
      ·intro j q hj;have e:(⟨gg,0,none⟩:Addr).add j=⟨gg,j,none⟩:=(by unfold Addr.add;split<;>simp_all);rw [e,hgb.cell];simpa using hj
      ·intro g9 c9 w9 iQ iJ jU qF
       exact hK'.out _ _ _ rfl trivial (push_append hF hu1 hu3 iQ iJ jU)
     ·have HF:=Z_ hF;clear hd hm hb hF;go_simp;exact hK'.out _ _ _ rfl trivial ⟨rfl,HF.out⟩
     ·obtain⟨v0,v1,v2,rfl⟩:=xy hm
      have y0:x 65=.pointer (some ⟨N,3,none⟩):=(D_ hd 6 :);have y1:x 64=v2:=((D_ hd 5) 64 (by kernel_rfl) :);have hF2:=hF;obtain⟨xn,ln,hT1,aP,gg,cc,rfl⟩:=hF2;have hc:=aP.nd.cell 3;have hf:=aP.nd.frozen 3;have hl:=aP.lt;simp at hc
      have HF:=Z_ hF;clear hd hm hb hF aP hT1;go_simp;exact hK'.out _ _ undef (by simp only [y0,y1];rfl) trivial (dP HF.out)
    case yN=>
     intro x vs w9 hl hF hk;obtain⟨v0,v1,v2,v3,rfl⟩:=xA hl
     obtain⟨xnc,DJ,hT1,jG⟩:=hF;clear hk hl;replace HT:=Z_ (Out.aG HT.out hT1.out);replace HB:=Z_ jG;replace aA:=Z_ HB.out.at;clear hT1 jG;have HH:=Z_ (cZ aA.out.pr Et);have gI:=Z_ (fun (h:fO DJ [Et]=true)=>bC.aU h);generalize fO DJ [Et]=R at *;go_wp2_with fail
     refine HH.out.mono ?_
     rintro e u34 ⟨rfl,hC,hP⟩;cases R with
     | false=>
      replace hP:bu W u34 S E DJ:=by simpa using hP
      have HT0:=HT.out;clear HT;simp only [Bool.false_eq_true,↓reduceIte] at HT0;have HT:=Z_ HT0;clear HT0;replace HB:=Z_ (HB.out.call hC hP (Nat.le_refl _));replace aA:=Z_ HB.out.at;clear hC hP HH gI;obtain⟨ra,rn,rc,hrow⟩:=HB.out.slice3
      first|subst hrow|clear hrow
      have c0:=HB.out.nd.cell 0;have c1:=HB.out.nd.cell 1;have c2:=HB.out.nd.cell 2;have c3:=HB.out.nd.cell 3;have r0:=HB.out.res.cell;have rf:=HB.out.res.frozen;have rl:=HB.out.res.lt;unfold bQ at r0;simp at c0 c1 c2 c3
      go_wp2_with fail
      refine bD rfl rfl rfl ((((HB.out.res.set 0 _).set 1 _).set 2 _).set 3 _) Tryz.underlying24 rfl (by kernel_rfl) ?_
      exact HB.out.ret (by decide) (HT.out.symm) _ _ _ _
     | true=>
      have Ot:=Z_ (gI.out rfl);replace hP:bu W u34 S E DJ.tail:=by simpa using hP
      have HT0:=HT.out;clear HT;simp only [↓reduceIte] at HT0;have HT:=Z_ HT0;clear HT0;replace HB:=Z_ (HB.out.call hC hP (by have:=gI.out rfl;omega));replace aA:=Z_ HB.out.at;clear hC hP HH gI;go_upto_region 16 with (fail)
      refine ah [3,4,5,7] (fun i v _=>v=([.pointer (some ⟨N,3,none⟩),v2,.pointer (some ⟨S,0,none⟩),undef,undef,undef,.pointer (some ⟨N,3,none⟩),undef]:List Value).getD i undef) (fK W w S E A N DJ.tail 10 ⟨#[]⟩ 0 v2 ([x32] ++ [xnc]) (bJ n .block DJ.tail)) (fun _ _=>True) (frame:=?Ud) (fun x=>?IM) mixed (by kernel_rfl) (by kernel_rfl) (fun _ _ _ _ h _=>h) ?Ue ?Uf ?find
      case IM=>
       simp only [chain.aK,chain.fill,chain.bf,chain.aW,jJ,jK,jL,jM,jO,jP,jQ,jR,jS];exact rfl
      case Ue=>exact HB.out.extend (aB.refl _ _).drew
      case Uf=>
       iterate 8 (refine ai.cons (fun x vs u hF hm hb hd K' hK'=>?_) ?_;rotate_left)
       exact ai.nil
       ·have HF:=Z_ hF;clear hd hm hb hF;go_simp;exact hK'.out _ _ _ rfl trivial ⟨rfl,HF.out⟩
       ·have y0:x 68=.pointer (some ⟨N,3,none⟩):=(D_ hd 0 :);have hc:=hF.cell (by have:=hb 2 _ (by decide) rfl (by kernel_rfl);omega);have HF:=Z_ hF;clear hd hm hb hF;go_simp;exact hK'.out _ _ _ (by simp only [y0];rfl) trivial ⟨rfl,HF.out⟩
       ·have HF:=Z_ hF;clear hd hm hb hF;go_simp;exact hK'.out _ _ _ rfl trivial ⟨rfl,HF.out⟩
       ·have y0:x 70=.pointer (some ⟨S,0,none⟩):=(D_ hd 2 :);obtain rfl:=kF hm;have HF:=Z_ (show iT _ _ _ _ _ _ _ _ _ _ _ _ _ _ from hF);clear hd hm hb hF;have jv:=Z_ (ih n (Nat.le_refl _) .block _ _ HF.out.pr HM.out rfl trivial (Out.bg HT.out ig.out));go_simp;refine jv.out.mono ?_
        rintro e u2 hr;obtain⟨hC,⟨lb,hp,rfl⟩|⟨xn,ln,v,hp,rfl,hv,hP⟩⟩:=hr.cases (Out.bg HT.out ig.out)
        ·have HE:=Z_ (Out.aF HT.out hp)
         have HC:=Z_ (HF.out.aO.then hC);clear hr hp hC hK' jv;go_wp2_with fail
         exact⟨rfl,dZ.fails HC.out HE.out⟩
        ·exact hK'.out _ _ _ (by simp only [y0];rfl) trivial (f_ HF.out hC hp hv hP (bC.dJ _ _ _ _ _ hp))
       ·obtain⟨v0,rfl⟩:=lK hm
        have y0:x 71=v0:=((D_ hd 3) 71 (by kernel_rfl) :);have hcl:∃ a b c d,v0=.agg #[a,b,c,d]:=by obtain⟨xn,ln,_,_,_,hx⟩:=hF;obtain⟨a,b,c,d,h,_⟩:=bz hx;exact⟨a,b,c,d,h⟩
        obtain⟨a0,b0,c0,d0,rfl⟩:=hcl;have HF:=Z_ hF;clear hd hm hb hF;go_simp;exact hK'.out _ _ _ (by simp only [y0];rfl) trivial (dO HF.out rfl)
       ·obtain⟨v0,v1,rfl⟩:=qX hm
        have y0:x 69=v2:=(D_ hd 1 :);have y1:x 72=v1:=((D_ hd 4) 72 (by kernel_rfl) :);have hF2:=hF;obtain⟨xn,ln,hT1,aP,hfew,hx,gg,rfl,hgb,hgr⟩:=hF2;obtain⟨us,hu1,ho,hu3⟩:=aP.grow.ex;have hlt:=aP.lt;obtain⟨jc,jd,hz0,hz1,hz2⟩:=aX eP;refine wp_append_lies _ _ _ 22 rfl (N+1) 24 jc (.agg #[.int .i64 0,.string ⟨#[]⟩,.int .i64 0,.slice none 0 0]) 4 56 Tryz.underlying22 jd hz0 hz1 hz2 rfl (by decide) v2 ([x32] ++ [xnc]).length (us.flatMap fun u=>u.cells.toList) y0 ho ⟨gg,0,none⟩ 1 1 v0.cells.toList y1 (by rw [Array.length_toList,fA hx]) ?_ (by obtain⟨a,b,c,d,e,e2,p1,p2,p3,p4⟩:=bz hx;rw [e2];intro q hq;simp at hq;rcases hq with rfl|rfl|rfl|rfl<;>assumption) (by decide) (by unfold maxLen;omega) (by omega) (by omega) u.heap.size rfl ?_
        ·intro j q hj;have e:(⟨gg,0,none⟩:Addr).add j=⟨gg,j,none⟩:=(by unfold Addr.add;split<;>simp_all);rw [e,hgb.cell];simpa using hj
        ·intro g9 c9 w9 iQ iJ jU qF
         exact hK'.out _ _ _ rfl trivial (push_append hF hu1 hu3 iQ iJ jU)
       ·have HF:=Z_ hF;clear hd hm hb hF;go_simp;exact hK'.out _ _ _ rfl trivial ⟨rfl,HF.out⟩
       ·obtain⟨v0,v1,v2,rfl⟩:=xy hm
        have y0:x 74=.pointer (some ⟨N,3,none⟩):=(D_ hd 6 :);have y1:x 73=v2:=((D_ hd 5) 73 (by kernel_rfl) :);have hF2:=hF;obtain⟨xn,ln,hT1,aP,gg,cc,rfl⟩:=hF2;have hc:=aP.nd.cell 3;have hf:=aP.nd.frozen 3;have hl:=aP.lt;simp at hc
        have HF:=Z_ hF;clear hd hm hb hF aP hT1;go_simp;exact hK'.out _ _ undef (by simp only [y0,y1];rfl) trivial (dP HF.out)
      case find=>
       intro x vs w9 hl hF hk;obtain⟨v0,v1,v2,v3,rfl⟩:=xA hl
       obtain⟨xnd,lnd,hT1,jG⟩:=hF;clear hk hl;replace HT:=Z_ (Out.aG HT.out hT1.out);replace HB:=Z_ jG;replace aA:=Z_ HB.out.at;clear hT1 jG;obtain⟨ra,rn,rc,hrow⟩:=HB.out.slice3
       first|subst hrow|clear hrow
       have c0:=HB.out.nd.cell 0;have c1:=HB.out.nd.cell 1;have c2:=HB.out.nd.cell 2;have c3:=HB.out.nd.cell 3;have r0:=HB.out.res.cell;have rf:=HB.out.res.frozen;have rl:=HB.out.res.lt;unfold bQ at r0;simp at c0 c1 c2 c3
       go_wp2_with fail
       refine bD rfl rfl rfl ((((HB.out.res.set 0 _).set 1 _).set 2 _).set 3 _) Tryz.underlying24 rfl (by kernel_rfl) ?_
       exact HB.out.ret (by decide) (HT.out.symm) _ _ _ _
  | true=>
   have WV:=Z_ (gI.out rfl);replace hP:bu W u3 S E l.tail:=by simpa using hP
   have HT0:=HT.out;clear HT;simp only [↓reduceIte] at HT0;have HT:=Z_ HT0;clear HT0;replace HB:=Z_ (HB.out.call hC hP (by have:=gI.out rfl;omega));replace aA:=Z_ HB.out.at;clear hC hP HH gI;have HN:=Z_ (p_ aA.out.pr HM.out);go_wp2_with fail
   refine HN.out.mono ?_
   rintro e u35 hr;obtain⟨hC,⟨lb,hp,rfl⟩|⟨s35,l35,v,hp,rfl,⟨rfl,hs⟩,hP⟩⟩:=hr.cases (qg _)
   ·have HF:=Z_ (Out.aF HT.out hp)
    have HC:=Z_ (aA.out.aO.then hC);clear hr hp hC;go_wp2_with fail
    exact⟨rfl,dZ.fails HC.out HF.out⟩
   replace HT:=Z_ (Out.aG HT.out hp);have Ot:=Z_ (bC.gV hp);replace HB:=Z_ (HB.out.call hC hP (by have:=bC.gV hp;omega));replace aA:=Z_ HB.out.at;have lM:=Z_ hs;clear hr hp hC hP HN;clear hs;have iC:=HB.out.lt;obtain⟨B,hB⟩:∃ B,u35.heap.size=B:=⟨_,rfl⟩;rw [hB] at iC;have HN:=Z_ (ih n (Nat.le_refl _) (.call s35) _ _ aA.out.pr HM.out rfl lM.out (Out.bg HT.out ig.out));go_wp2_with fail
   refine HN.out.mono ?_
   rintro e u36 hr;obtain⟨hC,⟨lb,hp,rfl⟩|⟨x36,l36,v36,hp,rfl,hv,hP⟩⟩:=hr.cases (Out.bg HT.out ig.out)
   ·have HF:=Z_ (Out.aF HT.out hp)
    have HC:=Z_ (aA.out.aO.then hC);clear hr hp hC;go_wp2_with fail
    exact⟨rfl,dZ.fails HC.out HF.out⟩
   replace HT:=Z_ (Out.aG HT.out hp);have WW:=Z_ ((show _ from bC.dJ _ _ _ _ _ hp));replace HB:=Z_ (HB.out.call hC hP (by have:=bC.dJ _ _ _ _ _ hp;omega));replace aA:=Z_ HB.out.at;obtain⟨WX,WY,WZ,W6,W7,W8,rfl⟩:=bU hv;have W9:=Z_ hv;have Ou:u35.heap.size≤u36.heap.size:=hC.size;clear hr hp hC hP hv HN;rw [hB] at W9 Ou;have HG:=Z_ (lI W9.out (by omega:N+1≤B) Ou (c:=#[.int .i64 WX,.string WY,.int .i64 WZ,.slice W6 W7 W8]) rfl);have eM:=(aB.refl (fun _=>False) u36).alloc (.cells #[.int .i64 WX,.string WY,.int .i64 WZ,.slice W6 W7 W8] 24);replace HB:=Z_ (HB.out.extend eM);replace aA:=Z_ HB.out.at;clear eM;go_wp2_with fail
   refine(dG _ _ _ _ _ _ _).mono ?_
   rintro e u37 ⟨rfl,hE⟩;replace HB:=Z_ (HB.out.extend hE);replace aA:=Z_ HB.out.at;replace HG:=Z_ (HG.out.aO fZ hE (fun _ h=>h.elim));have n0:=HB.out.nd.cell;have nf:=HB.out.nd.frozen;have nl:=HB.out.nd.lt;go_upto_region 30 with (fail)
   replace HB:=Z_ (HB.out.put (kind:=9) (text:=⟨#[]⟩) (num:=0) HG.out (by simp only [List.length_singleton];have:=HLEN.out;have:=WV.out;have:=Ot.out;have:=WW.out;omega));replace aA:=Z_ HB.out.at;clear n0 nf nl hE HG;generalize (((u37.setCell ⟨N,0,none⟩ (.int .i64 9)).setCell ⟨N,1,none⟩ (.string ⟨#[]⟩)).setCell ⟨N,2,none⟩ (.int .i64 0)).setCell ⟨N,3,none⟩ (.slice (some ⟨u36.heap.size,0,none⟩) 1 1)=v37 at *;have HT0:=HT.out;clear HT;unfold jY at HT0;have HT:=Z_ HT0;clear HT0;have HN:=Z_ (cg (aA.out.pr.alloc (.cells #[.string cO] 9)) v37.heap.size 1 cO ((aH.made v37 #[.string cO] 9).cell 0));have eM:=(aB.refl (fun _=>False) v37).alloc (.cells #[.string cO] 9);replace HB:=Z_ (HB.out.extend eM);replace aA:=Z_ HB.out.at;clear eM;go_wp2_with fail
   refine HN.out.mono ?_
   rintro e u38 hr;obtain⟨hC,⟨lb,hp,rfl⟩|⟨_,l38,_,hp,rfl,rfl,hP⟩⟩:=hr.cases (dh _ _)
   ·have HF:=Z_ (Out.aF HT.out hp)
    have HC:=Z_ (aA.out.aO.then hC);clear hr hp hC;go_wp2_with fail
    exact⟨rfl,dZ.fails HC.out HF.out⟩
   replace HT:=Z_ (Out.aG HT.out hp);have ac3:=Z_ (bC.aV hp);replace HB:=Z_ (HB.out.call hC hP (by have:=bC.aV hp;omega));replace aA:=Z_ HB.out.at;clear hr hp hC hP HN;obtain⟨ra,rn,rc,hrow⟩:=HB.out.slice3
   first|subst hrow|clear hrow
   have c0:=HB.out.nd.cell 0;have c1:=HB.out.nd.cell 1;have c2:=HB.out.nd.cell 2;have c3:=HB.out.nd.cell 3;have r0:=HB.out.res.cell;have rf:=HB.out.res.frozen;have rl:=HB.out.res.lt;unfold bQ at r0;simp at c0 c1 c2 c3
   go_wp2_with fail
   refine bD rfl rfl rfl ((((HB.out.res.set 0 _).set 1 _).set 2 _).set 3 _) Tryz.underlying24 rfl (by kernel_rfl) ?_
   exact HB.out.ret (by decide) (HT.out.symm) _ _ _ _
 | true=>
  have HT0:=HT.out;clear HT;simp only [↓reduceIte] at HT0;have HT:=Z_ HT0;clear HT0;have HN:=Z_ (dD aA.out.pr);go_wp2_with fail
  refine HN.out.mono ?_
  rintro e u39 hr;obtain⟨hC,⟨lb,hp,rfl⟩|⟨b39,l39,v,hp,rfl,⟨rfl,hb0,hb1⟩,hP⟩⟩:=hr.cases (iZ _)
  ·have HF:=Z_ (Out.aF HT.out hp)
   have HC:=Z_ (aA.out.aO.then hC);clear hr hp hC;go_wp2_with fail
   exact⟨rfl,dZ.fails HC.out HF.out⟩
  replace HT:=Z_ (Out.aG HT.out hp);have W_:=Z_ (bC.dL hp);replace HB:=Z_ (HB.out.call hC hP (by have:=bC.dL hp;omega));replace aA:=Z_ HB.out.at;have CG:=Z_ (And.intro hb0 hb1);clear hr hp hC hP HN;clear hb0 hb1;have HN:=Z_ (name_any aA.out.pr HM.out);go_wp2_with fail
  refine HN.out.mono ?_
  rintro e u40 hr;obtain⟨hC,⟨lb,hp,rfl⟩|⟨s40,l40,v,hp,rfl,⟨rfl,hs⟩,hP⟩⟩:=hr.cases (iI _)
  ·have HF:=Z_ (Out.aF HT.out hp)
   have HC:=Z_ (aA.out.aO.then hC);clear hr hp hC;go_wp2_with fail
   exact⟨rfl,dZ.fails HC.out HF.out⟩
  replace HT:=Z_ (Out.aG HT.out hp);have Xa:=Z_ (bC.ij hp);replace HB:=Z_ (HB.out.call hC hP (by have:=bC.ij hp;omega));replace aA:=Z_ HB.out.at;have lM:=Z_ hs;clear hr hp hC hP HN;clear hs;go_wp2_with fail
  refine(dG _ _ _ _ _ _ _).mono ?_
  rintro e u41 ⟨rfl,hE⟩;replace HB:=Z_ (HB.out.extend hE);replace aA:=Z_ HB.out.at;have HG:=Z_ (Grow.nil 4 24 LX (N+1) u41);have n0:=HB.out.nd.cell;have nf:=HB.out.nd.frozen;have nl:=HB.out.nd.lt;go_upto_region 8 with (fail)
  replace HB:=Z_ (HB.out.put (kind:=7) (text:=s40) (num:=b39) HG.out (by simp only [List.length_nil];have:=HLEN.out;have:=W_.out;have:=Xa.out;omega));replace aA:=Z_ HB.out.at;clear n0 nf nl hE HG;generalize (((u41.setCell ⟨N,0,none⟩ (.int .i64 7)).setCell ⟨N,1,none⟩ (.string s40)).setCell ⟨N,2,none⟩ (.int .i64 b39)).setCell ⟨N,3,none⟩ (.slice none 0 0)=v41 at *;have HN:=Z_ (cg (aA.out.pr.alloc (.cells #[.string Kw] 9)) v41.heap.size 1 Kw ((aH.made v41 #[.string Kw] 9).cell 0));have eM:=(aB.refl (fun _=>False) v41).alloc (.cells #[.string Kw] 9);replace HB:=Z_ (HB.out.extend eM);replace aA:=Z_ HB.out.at;clear eM;go_wp2_with fail
  refine HN.out.mono ?_
  rintro e u42 hr;obtain⟨hC,⟨lb,hp,rfl⟩|⟨_,l42,_,hp,rfl,rfl,hP⟩⟩:=hr.cases (dh _ _)
  ·have HF:=Z_ (Out.aF HT.out hp)
   have HC:=Z_ (aA.out.aO.then hC);clear hr hp hC;go_wp2_with fail
   exact⟨rfl,dZ.fails HC.out HF.out⟩
  replace HT:=Z_ (Out.aG HT.out hp);have ac4:=Z_ (bC.aV hp);replace HB:=Z_ (HB.out.call hC hP (by have:=bC.aV hp;omega));replace aA:=Z_ HB.out.at;clear hr hp hC hP HN;go_upto_region 9 with (fail)
  refine ah [3,4,5,7] (fun i v _=>v=([.pointer (some ⟨N,3,none⟩),(.slice none 0 0),.pointer (some ⟨S,0,none⟩),undef,undef,undef,.pointer (some ⟨N,3,none⟩),undef]:List Value).getD i undef) (fK W w S E A N l42 7 s40 b39 (.slice none 0 0) [] (bJ n .expr l42)) (fun _ _=>True) (frame:=?La) (fun x=>?yT) mixed (by kernel_rfl) (by kernel_rfl) (fun _ _ _ _ h _=>h) ?Lc ?Ld ?fine
  case yT=>
   simp only [chain.aK,chain.fill,chain.bf,chain.aW,jJ,jK,jL,jM,jO,jP,jQ,jR,jS];exact rfl
  case Lc=>exact HB.out.extend (aB.refl _ _).drew
  case Ld=>
   iterate 8 (refine ai.cons (fun x vs u hF hm hb hd K' hK'=>?_) ?_;rotate_left)
   exact ai.nil
   ·have HF:=Z_ hF;clear hd hm hb hF;go_simp;exact hK'.out _ _ _ rfl trivial ⟨rfl,HF.out⟩
   ·have y0:x 36=.pointer (some ⟨N,3,none⟩):=(D_ hd 0 :);have hc:=hF.cell (by have:=hb 2 _ (by decide) rfl (by kernel_rfl);omega);have HF:=Z_ hF;clear hd hm hb hF;go_simp;exact hK'.out _ _ _ (by simp only [y0];rfl) trivial ⟨rfl,HF.out⟩
   ·have HF:=Z_ hF;clear hd hm hb hF;go_simp;exact hK'.out _ _ _ rfl trivial ⟨rfl,HF.out⟩
   ·have y0:x 38=.pointer (some ⟨S,0,none⟩):=(D_ hd 2 :);obtain rfl:=kF hm;have HF:=Z_ (show iT _ _ _ _ _ _ _ _ _ _ _ _ _ _ from hF);clear hd hm hb hF;have jv:=Z_ (ih n (Nat.le_refl _) .expr _ _ HF.out.pr HM.out rfl trivial (Out.bg HT.out ig.out));go_simp;refine jv.out.mono ?_
    rintro e u2 hr;obtain⟨hC,⟨lb,hp,rfl⟩|⟨xn,ln,v,hp,rfl,hv,hP⟩⟩:=hr.cases (Out.bg HT.out ig.out)
    ·have HE:=Z_ (Out.aF HT.out hp)
     have HC:=Z_ (HF.out.aO.then hC);clear hr hp hC hK' jv;go_wp2_with fail
     exact⟨rfl,dZ.fails HC.out HE.out⟩
    ·exact hK'.out _ _ _ (by simp only [y0];rfl) trivial (f_ HF.out hC hp hv hP (bC.dJ _ _ _ _ _ hp))
   ·obtain⟨v0,rfl⟩:=lK hm
    have y0:x 39=v0:=((D_ hd 3) 39 (by kernel_rfl) :);have hcl:∃ a b c d,v0=.agg #[a,b,c,d]:=by obtain⟨xn,ln,_,_,_,hx⟩:=hF;obtain⟨a,b,c,d,h,_⟩:=bz hx;exact⟨a,b,c,d,h⟩
    obtain⟨a0,b0,c0,d0,rfl⟩:=hcl;have HF:=Z_ hF;clear hd hm hb hF;go_simp;exact hK'.out _ _ _ (by simp only [y0];rfl) trivial (dO HF.out rfl)
   ·obtain⟨v0,v1,rfl⟩:=qX hm
    have y0:x 37=(.slice none 0 0):=(D_ hd 1 :);have y1:x 40=v1:=((D_ hd 4) 40 (by kernel_rfl) :);have hF2:=hF;obtain⟨xn,ln,hT1,aP,hfew,hx,gg,rfl,hgb,hgr⟩:=hF2;obtain⟨us,hu1,ho,hu3⟩:=aP.grow.ex;have hlt:=aP.lt;obtain⟨jc,jd,hz0,hz1,hz2⟩:=aX eP;refine wp_append_lies _ _ _ 22 rfl (N+1) 24 jc (.agg #[.int .i64 0,.string ⟨#[]⟩,.int .i64 0,.slice none 0 0]) 4 56 Tryz.underlying22 jd hz0 hz1 hz2 rfl (by decide) (.slice none 0 0) [].length (us.flatMap fun u=>u.cells.toList) y0 ho ⟨gg,0,none⟩ 1 1 v0.cells.toList y1 (by rw [Array.length_toList,fA hx]) ?_ (by obtain⟨a,b,c,d,e,e2,p1,p2,p3,p4⟩:=bz hx;rw [e2];intro q hq;simp at hq;rcases hq with rfl|rfl|rfl|rfl<;>assumption) (by decide) (by unfold maxLen;omega) (by omega) (by omega) u.heap.size rfl ?_
    ·intro j q hj;have e:(⟨gg,0,none⟩:Addr).add j=⟨gg,j,none⟩:=(by unfold Addr.add;split<;>simp_all);rw [e,hgb.cell];simpa using hj
    ·intro g9 c9 w9 iQ iJ jU qF
     exact hK'.out _ _ _ rfl trivial (push_append hF hu1 hu3 iQ iJ jU)
   ·have HF:=Z_ hF;clear hd hm hb hF;go_simp;exact hK'.out _ _ _ rfl trivial ⟨rfl,HF.out⟩
   ·obtain⟨v0,v1,v2,rfl⟩:=xy hm
    have y0:x 42=.pointer (some ⟨N,3,none⟩):=(D_ hd 6 :);have y1:x 41=v2:=((D_ hd 5) 41 (by kernel_rfl) :);have hF2:=hF;obtain⟨xn,ln,hT1,aP,gg,cc,rfl⟩:=hF2;have hc:=aP.nd.cell 3;have hf:=aP.nd.frozen 3;have hl:=aP.lt;simp at hc
    have HF:=Z_ hF;clear hd hm hb hF aP hT1;go_simp;exact hK'.out _ _ undef (by simp only [y0,y1];rfl) trivial (dP HF.out)
  case fine=>
   intro x vs w9 hl hF hk;obtain⟨v0,v1,v2,v3,rfl⟩:=xA hl
   obtain⟨xne,X9,hT1,jG⟩:=hF;clear hk hl;replace HT:=Z_ (Out.aG HT.out hT1.out);replace HB:=Z_ jG;replace aA:=Z_ HB.out.at;clear hT1 jG;have HT0:=HT.out;clear HT;unfold jY at HT0;have HT:=Z_ HT0;clear HT0;have HN:=Z_ (cg (aA.out.pr.alloc (.cells #[.string cO] 9)) w9.heap.size 1 cO ((aH.made w9 #[.string cO] 9).cell 0));have eM:=(aB.refl (fun _=>False) w9).alloc (.cells #[.string cO] 9);replace HB:=Z_ (HB.out.extend eM);replace aA:=Z_ HB.out.at;clear eM;go_wp2_with fail
   refine HN.out.mono ?_
   rintro e u43 hr;obtain⟨hC,⟨lb,hp,rfl⟩|⟨_,l43,_,hp,rfl,rfl,hP⟩⟩:=hr.cases (dh _ _)
   ·have HF:=Z_ (Out.aF HT.out hp)
    have HC:=Z_ (aA.out.aO.then hC);clear hr hp hC;go_wp2_with fail
    exact⟨rfl,dZ.fails HC.out HF.out⟩
   replace HT:=Z_ (Out.aG HT.out hp);have ac5:=Z_ (bC.aV hp);replace HB:=Z_ (HB.out.call hC hP (by have:=bC.aV hp;omega));replace aA:=Z_ HB.out.at;clear hr hp hC hP HN;obtain⟨ra,rn,rc,hrow⟩:=HB.out.slice3
   first|subst hrow|clear hrow
   have c0:=HB.out.nd.cell 0;have c1:=HB.out.nd.cell 1;have c2:=HB.out.nd.cell 2;have c3:=HB.out.nd.cell 3;have r0:=HB.out.res.cell;have rf:=HB.out.res.frozen;have rl:=HB.out.res.lt;unfold bQ at r0;simp at c0 c1 c2 c3
   go_wp2_with fail
   refine bD rfl rfl rfl ((((HB.out.res.set 0 _).set 1 _).set 2 _).set 3 _) Tryz.underlying24 rfl (by kernel_rfl) ?_
   exact HB.out.ret (by have:=lM.out;omega) (HT.out.symm) _ _ _ _
end bn
end Go.Proofs.YtpcihajmcejliacGreatDoor
