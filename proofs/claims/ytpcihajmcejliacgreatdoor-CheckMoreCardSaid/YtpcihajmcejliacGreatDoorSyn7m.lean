/- The walk of the program's parser: declarations. -/
import Derived.StillTactics
import Derived.Test.YtpcihajmcejliacGreatDoorSyn6m
import Derived.Test.YtpcihajmcejliacGreatDoorSynDm
namespace Go.Proofs.YtpcihajmcejliacGreatDoor
open Go.RowKit
namespace bn
theorem nT {n:Int} (h0:0≤n) (h1:n≤100):IntKind.i64.wrap n=n∧wrap64 n=n:=⟨wrap_small n h0 (by omega),by unfold wrap64;omega⟩
theorem wO (l:List Tk):fD l≠.out:=by
 cases l with
 | nil=>intro h;cases h
 | cons t r=>
  simp only [fD,ne_eq];split<;>simp
set_option maxRecDepth 100000 in
set_option maxHeartbeats 4000000 in
theorem JR {n:Nat} (ih:∀ m,m≤n→Good m) {W w:World} {S E:Nat} {l:List Tk} (h:bu W w S E l) (hm:dw W) (hne:bJ (n+1) (.decl) l≠.out) :
  Calls Tryz.prog 98 #[.pointer (some ⟨S,0,none⟩)] w (dZ (VN w.heap.size) W w S E (bJ (n+1) (.decl) l)):=by
 obtain⟨T,hT⟩:∃ T,bJ (n+1) (.decl) l=T:=⟨_,rfl⟩;rw [hT] at hne ⊢;simp only [bJ] at hT;have HT:=Z_ hT;have ig:=Z_ hne;have HM:=Z_ hm;have aA:Hid (At W w (w.alloc (.cells #[.int .i64 0,.string ⟨#[]⟩,.int .i64 0,.slice none 0 0] 24)) S E w.heap.size l):=Z_ (At.start h);obtain⟨A,hA⟩:∃ A,w.heap.size=A:=⟨_,rfl⟩;rw [hA] at aA;have MW:S<A:=by have:=h.lt;omega
 clear h hm hne hT;go_enter Tryz.func98,Tryz.ntmps98
 go_upto_region 1 with (fail)
 generalize w.alloc (.cells #[.int .i64 0,.string ⟨#[]⟩,.int .i64 0,.slice none 0 0] 24)=u0 at *;go_upto_region 2 with (fail)
 have HH:=Z_ (cZ aA.out.pr rJ);have gI:=Z_ (fun (h:fO l [rJ]=true)=>bC.aU h);generalize fO l [rJ]=R at *;go_wp2_with fail
 refine HH.out.mono ?_
 rintro e u1 ⟨rfl,hC,hP⟩;cases R with
 | false=>
  replace hP:bu W u1 S E l:=by simpa using hP
  have HT0:=HT.out;clear HT;simp only [Bool.false_eq_true,↓reduceIte] at HT0;have HT:=Z_ HT0;clear HT0;replace aA:=Z_ (aA.out.call hC hP);clear hC hP HH gI;have HH:=Z_ (cZ aA.out.pr v_);have gI:=Z_ (fun (h:fO l [v_]=true)=>bC.aU h);generalize fO l [v_]=R at *;go_wp2_with fail
  refine HH.out.mono ?_
  rintro e u2 ⟨rfl,hC,hP⟩;cases R with
  | false=>
   replace hP:bu W u2 S E l:=by simpa using hP
   have HT0:=HT.out;clear HT;simp only [Bool.false_eq_true,↓reduceIte] at HT0;have HT:=Z_ HT0;clear HT0;replace aA:=Z_ (aA.out.call hC hP);clear hC hP HH gI;have HN:=Z_ (dD aA.out.pr);go_wp2_with fail
   refine HN.out.mono ?_
   rintro e u3 hr;obtain⟨hC,⟨lb,hp,rfl⟩|⟨b3,l3,v,hp,rfl,⟨rfl,hb0,hb1⟩,hP⟩⟩:=hr.cases (iZ _)
   ·have HF:=Z_ (Out.aF HT.out hp)
    have HC:=Z_ (aA.out.aO.then hC);clear hr hp hC;go_wp2_with fail
    exact⟨rfl,dZ.fails HC.out HF.out⟩
   replace HT:=Z_ (Out.aG HT.out hp);replace aA:=Z_ (aA.out.call hC hP);have CG:=Z_ (And.intro hb0 hb1);clear hr hp hC hP HN;clear hb0 hb1;have HT0:=HT.out;clear HT;simp only [Int.add_zero] at HT0;have HT:=Z_ HT0;clear HT0;have hw7:=nT (n:=b3) (by have:=CG.out;omega) (by have:=CG.out;omega);obtain⟨hw8,QM⟩:=hw7;have HN:=Z_ (name_any aA.out.pr HM.out);go_wp2_with fail
   refine HN.out.mono ?_
   rintro e u4 hr;obtain⟨hC,⟨lb,hp,rfl⟩|⟨s4,l4,v,hp,rfl,⟨rfl,hs⟩,hP⟩⟩:=hr.cases (iI _)
   ·have HF:=Z_ (Out.aF HT.out hp)
    have HC:=Z_ (aA.out.aO.then hC);clear hr hp hC;go_wp2_with fail
    exact⟨rfl,dZ.fails HC.out HF.out⟩
   replace HT:=Z_ (Out.aG HT.out hp);replace aA:=Z_ (aA.out.call hC hP);have lM:=Z_ hs;clear hr hp hC hP HN;clear hs;go_wp2_with fail
   refine(dG _ _ _ _ _ _ _).mono ?_
   rintro e u5 ⟨rfl,hE⟩;replace aA:=Z_ (aA.out.extend hE);clear hw8 QM;have HB:=Z_ ((aA.out.alloc (.cells #[.int .i64 (3),.string s4,.int .i64 (b3),.slice none 0 0] 24)).Sz (aH.made u5 _ _) aA.out.lt);obtain⟨N,hN⟩:∃ N,u5.heap.size=N:=⟨_,rfl⟩;rw [hN] at HB;clear hE aA;go_upto_region 8 with (fail)
   generalize u5.alloc (.cells #[.int .i64 (3),.string s4,.int .i64 (b3),.slice none 0 0] 24)=v0 at *;have aA:=Z_ HB.out.at;have HH:=Z_ (cZ aA.out.pr vZ);have gI:=Z_ (fun (h:fO l4 [vZ]=true)=>bC.aU h);generalize fO l4 [vZ]=R at *;go_wp2_with fail
   refine HH.out.mono ?_
   rintro e u6 ⟨rfl,hC,hP⟩;cases R with
   | false=>
    replace hP:bu W u6 S E l4:=by simpa using hP
    have HT0:=HT.out;clear HT;simp only [Bool.false_eq_true,↓reduceIte] at HT0;have HT:=Z_ HT0;clear HT0;replace HB:=Z_ (HB.out.call hC hP (Nat.le_refl _));replace aA:=Z_ HB.out.at;clear hC hP HH gI;have HT0:=HT.out;clear HT;unfold jY at HT0;have HT:=Z_ HT0;clear HT0;have HN:=Z_ (cg (aA.out.pr.alloc (.cells #[.string cO] 9)) u6.heap.size 1 cO ((aH.made u6 #[.string cO] 9).cell 0));have eM:=(aB.refl (fun _=>False) u6).alloc (.cells #[.string cO] 9);replace HB:=Z_ (HB.out.extend eM);replace aA:=Z_ HB.out.at;clear eM;go_wp2_with fail
    refine HN.out.mono ?_
    rintro e u7 hr;obtain⟨hC,⟨lb,hp,rfl⟩|⟨_,l7,_,hp,rfl,rfl,hP⟩⟩:=hr.cases (dh _ _)
    ·have HF:=Z_ (Out.aF HT.out hp)
     have HC:=Z_ (aA.out.aO.then hC);clear hr hp hC;go_wp2_with fail
     exact⟨rfl,dZ.fails HC.out HF.out⟩
    replace HT:=Z_ (Out.aG HT.out hp);replace HB:=Z_ (HB.out.call hC hP (by have:=bC.aV hp;omega));replace aA:=Z_ HB.out.at;clear hr hp hC hP HN;obtain⟨ra,rn,rc,hrow⟩:=HB.out.slice3
    first|subst hrow|clear hrow
    have c0:=HB.out.nd.cell 0;have c1:=HB.out.nd.cell 1;have c2:=HB.out.nd.cell 2;have c3:=HB.out.nd.cell 3;have r0:=HB.out.res.cell;have rf:=HB.out.res.frozen;have rl:=HB.out.res.lt;unfold bQ at r0;simp at c0 c1 c2 c3
    go_wp2_with fail
    refine bD rfl rfl rfl ((((HB.out.res.set 0 _).set 1 _).set 2 _).set 3 _) Tryz.underlying24 rfl (by kernel_rfl) ?_
    exact HB.out.ret (by have:=lM.out;omega) (HT.out.symm) _ _ _ _
   | true=>
    replace hP:bu W u6 S E l4.tail:=by simpa using hP
    have HT0:=HT.out;clear HT;simp only [↓reduceIte] at HT0;have HT:=Z_ HT0;clear HT0;replace HB:=Z_ (HB.out.call hC hP (by have:=gI.out rfl;omega));replace aA:=Z_ HB.out.at;clear hC hP HH gI;go_upto_region 9 with (fail)
    refine ah [3,4,5,7] (fun i v _=>v=([.pointer (some ⟨N,3,none⟩),(.slice none 0 0),.pointer (some ⟨S,0,none⟩),undef,undef,undef,.pointer (some ⟨N,3,none⟩),undef]:List Value).getD i undef) (fK W w S E A N l4.tail 3 s4 (b3) (.slice none 0 0) [] (fD l4.tail)) (fun _ _=>True) (frame:=?Ah) (fun x=>?oQ) mixed (by kernel_rfl) (by kernel_rfl) (fun _ _ _ _ h _=>h) ?Ai ?Aj ?oU
    case oQ=>
     simp only [chain.aK,chain.fill,chain.bf,chain.aW,jJ,jK,jL,jM,jO,jP,jQ,jR,jS];exact rfl
    case Ai=>exact HB.out.extend (aB.refl _ _).drew
    case Aj=>
     iterate 8 (refine ai.cons (fun x vs u hF hm hb hd K' hK'=>?_) ?_;rotate_left)
     exact ai.nil
     ·have HF:=Z_ hF;clear hd hm hb hF;go_simp;exact hK'.out _ _ _ rfl trivial ⟨rfl,HF.out⟩
     ·have y0:x 23=.pointer (some ⟨N,3,none⟩):=(D_ hd 0 :);have hc:=hF.cell (by have:=hb 2 _ (by decide) rfl (by kernel_rfl);omega);have HF:=Z_ hF;clear hd hm hb hF;go_simp;exact hK'.out _ _ _ (by simp only [y0];rfl) trivial ⟨rfl,HF.out⟩
     ·have HF:=Z_ hF;clear hd hm hb hF;go_simp;exact hK'.out _ _ _ rfl trivial ⟨rfl,HF.out⟩
     ·have y0:x 25=.pointer (some ⟨S,0,none⟩):=(D_ hd 2 :);obtain rfl:=kF hm;have HF:=Z_ (show iT _ _ _ _ _ _ _ _ _ _ _ _ _ _ from hF);clear hd hm hb hF;have jv:=Z_ (lD HF.out.pr);go_simp;refine jv.out.mono ?_
      rintro e u2 hr;obtain⟨hC,⟨lb,hp,rfl⟩|⟨xn,ln,v,hp,rfl,hv,hP⟩⟩:=hr.cases (wO _)
      ·have HE:=Z_ (Out.aF HT.out hp)
       have HC:=Z_ (HF.out.aO.then hC);clear hr hp hC hK' jv;go_wp2_with fail
       exact⟨rfl,dZ.fails HC.out HE.out⟩
      ·exact hK'.out _ _ _ (by simp only [y0];rfl) trivial (f_ HF.out hC hp hv hP (bC.pY hp))
     ·obtain⟨v0,rfl⟩:=lK hm
      have y0:x 26=v0:=((D_ hd 3) 26 (by kernel_rfl) :);have hcl:∃ a b c d,v0=.agg #[a,b,c,d]:=by obtain⟨xn,ln,_,_,_,hx⟩:=hF;obtain⟨a,b,c,d,h,_⟩:=bz hx;exact⟨a,b,c,d,h⟩
      obtain⟨a0,b0,c0,d0,rfl⟩:=hcl;have HF:=Z_ hF;clear hd hm hb hF;go_simp;exact hK'.out _ _ _ (by simp only [y0];rfl) trivial (dO HF.out rfl)
     ·obtain⟨v0,v1,rfl⟩:=qX hm
      have y0:x 24=(.slice none 0 0):=(D_ hd 1 :);have y1:x 27=v1:=((D_ hd 4) 27 (by kernel_rfl) :);have hF2:=hF;obtain⟨xn,ln,hT1,aP,hfew,hx,gg,rfl,hgb,hgr⟩:=hF2;obtain⟨us,hu1,ho,hu3⟩:=aP.grow.ex;have hlt:=aP.lt;obtain⟨jc,jd,hz0,hz1,hz2⟩:=aX eP;refine wp_append_lies _ _ _ 22 rfl (N+1) 24 jc (.agg #[.int .i64 0,.string ⟨#[]⟩,.int .i64 0,.slice none 0 0]) 4 56 Tryz.underlying22 jd hz0 hz1 hz2 rfl (by decide) (.slice none 0 0) [].length (us.flatMap fun u=>u.cells.toList) y0 ho ⟨gg,0,none⟩ 1 1 v0.cells.toList y1 (by rw [Array.length_toList,fA hx]) ?_ (by obtain⟨a,b,c,d,e,e2,p1,p2,p3,p4⟩:=bz hx;rw [e2];intro q hq;simp at hq;rcases hq with rfl|rfl|rfl|rfl<;>assumption) (by decide) (by unfold maxLen;omega) (by omega) (by omega) u.heap.size rfl ?_
      ·intro j q hj;have e:(⟨gg,0,none⟩:Addr).add j=⟨gg,j,none⟩:=(by unfold Addr.add;split<;>simp_all);rw [e,hgb.cell];simpa using hj
      ·intro g9 c9 w9 iQ iJ jU qF
       exact hK'.out _ _ _ rfl trivial (push_append hF hu1 hu3 iQ iJ jU)
     ·have HF:=Z_ hF;clear hd hm hb hF;go_simp;exact hK'.out _ _ _ rfl trivial ⟨rfl,HF.out⟩
     ·obtain⟨v0,v1,v2,rfl⟩:=xy hm
      have y0:x 29=.pointer (some ⟨N,3,none⟩):=(D_ hd 6 :);have y1:x 28=v2:=((D_ hd 5) 28 (by kernel_rfl) :);have hF2:=hF;obtain⟨xn,ln,hT1,aP,gg,cc,rfl⟩:=hF2;have hc:=aP.nd.cell 3;have hf:=aP.nd.frozen 3;have hl:=aP.lt;simp at hc
      have HF:=Z_ hF;clear hd hm hb hF aP hT1;go_simp;exact hK'.out _ _ undef (by simp only [y0,y1];rfl) trivial (dP HF.out)
    case oU=>
     intro x vs w9 hl hF hk;obtain⟨v0,v1,v2,v3,rfl⟩:=xA hl
     obtain⟨xn,ln,hT1,jG⟩:=hF;clear hk hl;replace HT:=Z_ (Out.aG HT.out hT1.out);replace HB:=Z_ jG;replace aA:=Z_ HB.out.at;clear hT1 jG;have HN:=Z_ (cg (aA.out.pr.alloc (.cells #[.string rH] 9)) w9.heap.size 1 rH ((aH.made w9 #[.string rH] 9).cell 0));have eM:=(aB.refl (fun _=>False) w9).alloc (.cells #[.string rH] 9);replace HB:=Z_ (HB.out.extend eM);replace aA:=Z_ HB.out.at;clear eM;go_wp2_with fail
     refine HN.out.mono ?_
     rintro e u9 hr;obtain⟨hC,⟨lb,hp,rfl⟩|⟨_,l9,_,hp,rfl,rfl,hP⟩⟩:=hr.cases (dh _ _)
     ·have HF:=Z_ (Out.aF HT.out hp)
      have HC:=Z_ (aA.out.aO.then hC);clear hr hp hC;go_wp2_with fail
      exact⟨rfl,dZ.fails HC.out HF.out⟩
     replace HT:=Z_ (Out.aG HT.out hp);replace HB:=Z_ (HB.out.call hC hP (by have:=bC.aV hp;omega));replace aA:=Z_ HB.out.at;clear hr hp hC hP HN;have HT0:=HT.out;clear HT;unfold jY at HT0;have HT:=Z_ HT0;clear HT0;have HN:=Z_ (cg (aA.out.pr.alloc (.cells #[.string cO] 9)) u9.heap.size 1 cO ((aH.made u9 #[.string cO] 9).cell 0));have eM:=(aB.refl (fun _=>False) u9).alloc (.cells #[.string cO] 9);replace HB:=Z_ (HB.out.extend eM);replace aA:=Z_ HB.out.at;clear eM;go_wp2_with fail
     refine HN.out.mono ?_
     rintro e u10 hr;obtain⟨hC,⟨lb,hp,rfl⟩|⟨_,l10,_,hp,rfl,rfl,hP⟩⟩:=hr.cases (dh _ _)
     ·have HF:=Z_ (Out.aF HT.out hp)
      have HC:=Z_ (aA.out.aO.then hC);clear hr hp hC;go_wp2_with fail
      exact⟨rfl,dZ.fails HC.out HF.out⟩
     replace HT:=Z_ (Out.aG HT.out hp);replace HB:=Z_ (HB.out.call hC hP (by have:=bC.aV hp;omega));replace aA:=Z_ HB.out.at;clear hr hp hC hP HN;obtain⟨ra,rn,rc,hrow⟩:=HB.out.slice3
     first|subst hrow|clear hrow
     have c0:=HB.out.nd.cell 0;have c1:=HB.out.nd.cell 1;have c2:=HB.out.nd.cell 2;have c3:=HB.out.nd.cell 3;have r0:=HB.out.res.cell;have rf:=HB.out.res.frozen;have rl:=HB.out.res.lt;unfold bQ at r0;simp at c0 c1 c2 c3
     go_wp2_with fail
     refine bD rfl rfl rfl ((((HB.out.res.set 0 _).set 1 _).set 2 _).set 3 _) Tryz.underlying24 rfl (by kernel_rfl) ?_
     exact HB.out.ret (by have:=lM.out;omega) (HT.out.symm) _ _ _ _
  | true=>
   replace hP:bu W u2 S E l.tail:=by simpa using hP
   have HT0:=HT.out;clear HT;simp only [↓reduceIte] at HT0;have HT:=Z_ HT0;clear HT0;replace aA:=Z_ (aA.out.call hC hP);clear hC hP HH gI;have iC:=aA.out.lt;obtain⟨B,hB⟩:∃ B,u2.heap.size=B:=⟨_,rfl⟩;rw [hB] at iC;have HN:=Z_ (ih n (Nat.le_refl _) (.proc 0) _ _ aA.out.pr HM.out rfl (by decide:(0:Int)≤0∧(0:Int)≤2) (by rw [HT.out];exact ig.out));go_wp2_with fail
   refine HN.out.mono ?_
   rintro e u10 hr;obtain⟨hC,⟨lb,hp,rfl⟩|⟨x10,l10,v10,hp,rfl,hv,hP⟩⟩:=hr.cases (by rw [HT.out];exact ig.out)
   ·have HF:=Z_ (HT.out.symm.trans hp)
    have HC:=Z_ (aA.out.aO.then hC);clear hr hp hC;go_wp2_with fail
    exact⟨rfl,dZ.fails HC.out HF.out⟩
   replace HT:=Z_ (HT.out.symm.trans hp);replace aA:=Z_ (aA.out.call hC hP);obtain⟨MZ,M_,Na,Nc,Nh,Nj,rfl⟩:=bU hv;have BR:=Z_ hv;have EF:u2.heap.size≤u10.heap.size:=hC.size;clear hr hp hC hP hv HN;rw [hB] at BR;have r0:=aA.out.res.cell;have rf:=aA.out.res.frozen;have rl:=aA.out.res.lt;unfold bQ at r0;go_wp2_with fail
   refine bD rfl rfl rfl ((((aA.out.res.set 0 _).set 1 _).set 2 _).set 3 _) Tryz.underlying24 rfl (by kernel_rfl) ?_
   exact eH aA.out (below B) (BR.out) (cE (by omega)) (fun i hi=>cE (by omega)) (HT.out)
 | true=>
  replace hP:bu W u1 S E l.tail:=by simpa using hP
  have HT0:=HT.out;clear HT;simp only [↓reduceIte] at HT0;have HT:=Z_ HT0;clear HT0;replace aA:=Z_ (aA.out.call hC hP);clear hC hP HH gI;have HH:=Z_ (cZ aA.out.pr v_);have gI:=Z_ (fun (h:fO l.tail [v_]=true)=>bC.aU h);generalize fO l.tail [v_]=R at *;go_wp2_with fail
  refine HH.out.mono ?_
  rintro e u12 ⟨rfl,hC,hP⟩;cases R with
  | false=>
   replace hP:bu W u12 S E l.tail:=by simpa using hP
   have HT0:=HT.out;clear HT;simp only [Bool.false_eq_true,↓reduceIte] at HT0;have HT:=Z_ HT0;clear HT0;replace aA:=Z_ (aA.out.call hC hP);clear hC hP HH gI;have HN:=Z_ (dD aA.out.pr);go_wp2_with fail
   refine HN.out.mono ?_
   rintro e u13 hr;obtain⟨hC,⟨lb,hp,rfl⟩|⟨b13,l13,v,hp,rfl,⟨rfl,hb0,hb1⟩,hP⟩⟩:=hr.cases (iZ _)
   ·have HF:=Z_ (Out.aF HT.out hp)
    have HC:=Z_ (aA.out.aO.then hC);clear hr hp hC;go_wp2_with fail
    exact⟨rfl,dZ.fails HC.out HF.out⟩
   replace HT:=Z_ (Out.aG HT.out hp);replace aA:=Z_ (aA.out.call hC hP);have CG:=Z_ (And.intro hb0 hb1);clear hr hp hC hP HN;clear hb0 hb1;have hw7:=nT (n:=b13+2) (by have:=CG.out;omega) (by have:=CG.out;omega);obtain⟨hw8,QM⟩:=hw7;have HN:=Z_ (name_any aA.out.pr HM.out);go_wp2_with fail
   refine HN.out.mono ?_
   rintro e u14 hr;obtain⟨hC,⟨lb,hp,rfl⟩|⟨s14,QF,v,hp,rfl,⟨rfl,hs⟩,hP⟩⟩:=hr.cases (iI _)
   ·have HF:=Z_ (Out.aF HT.out hp)
    have HC:=Z_ (aA.out.aO.then hC);clear hr hp hC;go_wp2_with fail
    exact⟨rfl,dZ.fails HC.out HF.out⟩
   replace HT:=Z_ (Out.aG HT.out hp);replace aA:=Z_ (aA.out.call hC hP);have lM:=Z_ hs;clear hr hp hC hP HN;clear hs;go_wp2_with fail
   refine(dG _ _ _ _ _ _ _).mono ?_
   rintro e u15 ⟨rfl,hE⟩;replace aA:=Z_ (aA.out.extend hE);clear hw8 QM;have HB:=Z_ ((aA.out.alloc (.cells #[.int .i64 (3),.string s14,.int .i64 (b13+2),.slice none 0 0] 24)).Sz (aH.made u15 _ _) aA.out.lt);obtain⟨N,hN⟩:∃ N,u15.heap.size=N:=⟨_,rfl⟩;rw [hN] at HB;clear hE aA;go_upto_region 8 with (fail)
   generalize u15.alloc (.cells #[.int .i64 (3),.string s14,.int .i64 (b13+2),.slice none 0 0] 24)=v0 at *;have aA:=Z_ HB.out.at;have HH:=Z_ (cZ aA.out.pr vZ);have gI:=Z_ (fun (h:fO QF [vZ]=true)=>bC.aU h);generalize fO QF [vZ]=R at *;go_wp2_with fail
   refine HH.out.mono ?_
   rintro e u16 ⟨rfl,hC,hP⟩;cases R with
   | false=>
    replace hP:bu W u16 S E QF:=by simpa using hP
    have HT0:=HT.out;clear HT;simp only [Bool.false_eq_true,↓reduceIte] at HT0;have HT:=Z_ HT0;clear HT0;replace HB:=Z_ (HB.out.call hC hP (Nat.le_refl _));replace aA:=Z_ HB.out.at;clear hC hP HH gI;have HT0:=HT.out;clear HT;unfold jY at HT0;have HT:=Z_ HT0;clear HT0;have HN:=Z_ (cg (aA.out.pr.alloc (.cells #[.string cO] 9)) u16.heap.size 1 cO ((aH.made u16 #[.string cO] 9).cell 0));have eM:=(aB.refl (fun _=>False) u16).alloc (.cells #[.string cO] 9);replace HB:=Z_ (HB.out.extend eM);replace aA:=Z_ HB.out.at;clear eM;go_wp2_with fail
    refine HN.out.mono ?_
    rintro e u17 hr;obtain⟨hC,⟨lb,hp,rfl⟩|⟨_,l17,_,hp,rfl,rfl,hP⟩⟩:=hr.cases (dh _ _)
    ·have HF:=Z_ (Out.aF HT.out hp)
     have HC:=Z_ (aA.out.aO.then hC);clear hr hp hC;go_wp2_with fail
     exact⟨rfl,dZ.fails HC.out HF.out⟩
    replace HT:=Z_ (Out.aG HT.out hp);replace HB:=Z_ (HB.out.call hC hP (by have:=bC.aV hp;omega));replace aA:=Z_ HB.out.at;clear hr hp hC hP HN;obtain⟨ra,rn,rc,hrow⟩:=HB.out.slice3
    first|subst hrow|clear hrow
    have c0:=HB.out.nd.cell 0;have c1:=HB.out.nd.cell 1;have c2:=HB.out.nd.cell 2;have c3:=HB.out.nd.cell 3;have r0:=HB.out.res.cell;have rf:=HB.out.res.frozen;have rl:=HB.out.res.lt;unfold bQ at r0;simp at c0 c1 c2 c3
    go_wp2_with fail
    refine bD rfl rfl rfl ((((HB.out.res.set 0 _).set 1 _).set 2 _).set 3 _) Tryz.underlying24 rfl (by kernel_rfl) ?_
    exact HB.out.ret (by have:=lM.out;omega) (HT.out.symm) _ _ _ _
   | true=>
    replace hP:bu W u16 S E QF.tail:=by simpa using hP
    have HT0:=HT.out;clear HT;simp only [↓reduceIte] at HT0;have HT:=Z_ HT0;clear HT0;replace HB:=Z_ (HB.out.call hC hP (by have:=gI.out rfl;omega));replace aA:=Z_ HB.out.at;clear hC hP HH gI;go_upto_region 9 with (fail)
    refine ah [3,4,5,7] (fun i v _=>v=([.pointer (some ⟨N,3,none⟩),(.slice none 0 0),.pointer (some ⟨S,0,none⟩),undef,undef,undef,.pointer (some ⟨N,3,none⟩),undef]:List Value).getD i undef) (fK W w S E A N QF.tail 3 s14 (b13+2) (.slice none 0 0) [] (fD QF.tail)) (fun _ _=>True) (frame:=?Bd) (fun x=>?o7) mixed (by kernel_rfl) (by kernel_rfl) (fun _ _ _ _ h _=>h) ?Be ?Bf ?o8
    case o7=>
     simp only [chain.aK,chain.fill,chain.bf,chain.aW,jJ,jK,jL,jM,jO,jP,jQ,jR,jS];exact rfl
    case Be=>exact HB.out.extend (aB.refl _ _).drew
    case Bf=>
     iterate 8 (refine ai.cons (fun x vs u hF hm hb hd K' hK'=>?_) ?_;rotate_left)
     exact ai.nil
     ·have HF:=Z_ hF;clear hd hm hb hF;go_simp;exact hK'.out _ _ _ rfl trivial ⟨rfl,HF.out⟩
     ·have y0:x 23=.pointer (some ⟨N,3,none⟩):=(D_ hd 0 :);have hc:=hF.cell (by have:=hb 2 _ (by decide) rfl (by kernel_rfl);omega);have HF:=Z_ hF;clear hd hm hb hF;go_simp;exact hK'.out _ _ _ (by simp only [y0];rfl) trivial ⟨rfl,HF.out⟩
     ·have HF:=Z_ hF;clear hd hm hb hF;go_simp;exact hK'.out _ _ _ rfl trivial ⟨rfl,HF.out⟩
     ·have y0:x 25=.pointer (some ⟨S,0,none⟩):=(D_ hd 2 :);obtain rfl:=kF hm;have HF:=Z_ (show iT _ _ _ _ _ _ _ _ _ _ _ _ _ _ from hF);clear hd hm hb hF;have jv:=Z_ (lD HF.out.pr);go_simp;refine jv.out.mono ?_
      rintro e u2 hr;obtain⟨hC,⟨lb,hp,rfl⟩|⟨xn,ln,v,hp,rfl,hv,hP⟩⟩:=hr.cases (wO _)
      ·have HE:=Z_ (Out.aF HT.out hp)
       have HC:=Z_ (HF.out.aO.then hC);clear hr hp hC hK' jv;go_wp2_with fail
       exact⟨rfl,dZ.fails HC.out HE.out⟩
      ·exact hK'.out _ _ _ (by simp only [y0];rfl) trivial (f_ HF.out hC hp hv hP (bC.pY hp))
     ·obtain⟨v0,rfl⟩:=lK hm
      have y0:x 26=v0:=((D_ hd 3) 26 (by kernel_rfl) :);have hcl:∃ a b c d,v0=.agg #[a,b,c,d]:=by obtain⟨xn,ln,_,_,_,hx⟩:=hF;obtain⟨a,b,c,d,h,_⟩:=bz hx;exact⟨a,b,c,d,h⟩
      obtain⟨a0,b0,c0,d0,rfl⟩:=hcl;have HF:=Z_ hF;clear hd hm hb hF;go_simp;exact hK'.out _ _ _ (by simp only [y0];rfl) trivial (dO HF.out rfl)
     ·obtain⟨v0,v1,rfl⟩:=qX hm
      have y0:x 24=(.slice none 0 0):=(D_ hd 1 :);have y1:x 27=v1:=((D_ hd 4) 27 (by kernel_rfl) :);have hF2:=hF;obtain⟨xn,ln,hT1,aP,hfew,hx,gg,rfl,hgb,hgr⟩:=hF2;obtain⟨us,hu1,ho,hu3⟩:=aP.grow.ex;have hlt:=aP.lt;obtain⟨jc,jd,hz0,hz1,hz2⟩:=aX eP;refine wp_append_lies _ _ _ 22 rfl (N+1) 24 jc (.agg #[.int .i64 0,.string ⟨#[]⟩,.int .i64 0,.slice none 0 0]) 4 56 Tryz.underlying22 jd hz0 hz1 hz2 rfl (by decide) (.slice none 0 0) [].length (us.flatMap fun u=>u.cells.toList) y0 ho ⟨gg,0,none⟩ 1 1 v0.cells.toList y1 (by rw [Array.length_toList,fA hx]) ?_ (by obtain⟨a,b,c,d,e,e2,p1,p2,p3,p4⟩:=bz hx;rw [e2];intro q hq;simp at hq;rcases hq with rfl|rfl|rfl|rfl<;>assumption) (by decide) (by unfold maxLen;omega) (by omega) (by omega) u.heap.size rfl ?_
      ·intro j q hj;have e:(⟨gg,0,none⟩:Addr).add j=⟨gg,j,none⟩:=(by unfold Addr.add;split<;>simp_all);rw [e,hgb.cell];simpa using hj
      ·intro g9 c9 w9 iQ iJ jU qF
       exact hK'.out _ _ _ rfl trivial (push_append hF hu1 hu3 iQ iJ jU)
     ·have HF:=Z_ hF;clear hd hm hb hF;go_simp;exact hK'.out _ _ _ rfl trivial ⟨rfl,HF.out⟩
     ·obtain⟨v0,v1,v2,rfl⟩:=xy hm
      have y0:x 29=.pointer (some ⟨N,3,none⟩):=(D_ hd 6 :);have y1:x 28=v2:=((D_ hd 5) 28 (by kernel_rfl) :);have hF2:=hF;obtain⟨xn,ln,hT1,aP,gg,cc,rfl⟩:=hF2;have hc:=aP.nd.cell 3;have hf:=aP.nd.frozen 3;have hl:=aP.lt;simp at hc
      have HF:=Z_ hF;clear hd hm hb hF aP hT1;go_simp;exact hK'.out _ _ undef (by simp only [y0,y1];rfl) trivial (dP HF.out)
    case o8=>
     intro x vs w9 hl hF hk;obtain⟨v0,v1,v2,v3,rfl⟩:=xA hl
     obtain⟨xn,ln,hT1,jG⟩:=hF;clear hk hl;replace HT:=Z_ (Out.aG HT.out hT1.out);replace HB:=Z_ jG;replace aA:=Z_ HB.out.at;clear hT1 jG;have HN:=Z_ (cg (aA.out.pr.alloc (.cells #[.string rH] 9)) w9.heap.size 1 rH ((aH.made w9 #[.string rH] 9).cell 0));have eM:=(aB.refl (fun _=>False) w9).alloc (.cells #[.string rH] 9);replace HB:=Z_ (HB.out.extend eM);replace aA:=Z_ HB.out.at;clear eM;go_wp2_with fail
     refine HN.out.mono ?_
     rintro e u19 hr;obtain⟨hC,⟨lb,hp,rfl⟩|⟨_,l19,_,hp,rfl,rfl,hP⟩⟩:=hr.cases (dh _ _)
     ·have HF:=Z_ (Out.aF HT.out hp)
      have HC:=Z_ (aA.out.aO.then hC);clear hr hp hC;go_wp2_with fail
      exact⟨rfl,dZ.fails HC.out HF.out⟩
     replace HT:=Z_ (Out.aG HT.out hp);replace HB:=Z_ (HB.out.call hC hP (by have:=bC.aV hp;omega));replace aA:=Z_ HB.out.at;clear hr hp hC hP HN;have HT0:=HT.out;clear HT;unfold jY at HT0;have HT:=Z_ HT0;clear HT0;have HN:=Z_ (cg (aA.out.pr.alloc (.cells #[.string cO] 9)) u19.heap.size 1 cO ((aH.made u19 #[.string cO] 9).cell 0));have eM:=(aB.refl (fun _=>False) u19).alloc (.cells #[.string cO] 9);replace HB:=Z_ (HB.out.extend eM);replace aA:=Z_ HB.out.at;clear eM;go_wp2_with fail
     refine HN.out.mono ?_
     rintro e u20 hr;obtain⟨hC,⟨lb,hp,rfl⟩|⟨_,l20,_,hp,rfl,rfl,hP⟩⟩:=hr.cases (dh _ _)
     ·have HF:=Z_ (Out.aF HT.out hp)
      have HC:=Z_ (aA.out.aO.then hC);clear hr hp hC;go_wp2_with fail
      exact⟨rfl,dZ.fails HC.out HF.out⟩
     replace HT:=Z_ (Out.aG HT.out hp);replace HB:=Z_ (HB.out.call hC hP (by have:=bC.aV hp;omega));replace aA:=Z_ HB.out.at;clear hr hp hC hP HN;obtain⟨ra,rn,rc,hrow⟩:=HB.out.slice3
     first|subst hrow|clear hrow
     have c0:=HB.out.nd.cell 0;have c1:=HB.out.nd.cell 1;have c2:=HB.out.nd.cell 2;have c3:=HB.out.nd.cell 3;have r0:=HB.out.res.cell;have rf:=HB.out.res.frozen;have rl:=HB.out.res.lt;unfold bQ at r0;simp at c0 c1 c2 c3
     go_wp2_with fail
     refine bD rfl rfl rfl ((((HB.out.res.set 0 _).set 1 _).set 2 _).set 3 _) Tryz.underlying24 rfl (by kernel_rfl) ?_
     exact HB.out.ret (by have:=lM.out;omega) (HT.out.symm) _ _ _ _
  | true=>
   replace hP:bu W u12 S E l.tail.tail:=by simpa using hP
   have HT0:=HT.out;clear HT;simp only [↓reduceIte] at HT0;have HT:=Z_ HT0;clear HT0;replace aA:=Z_ (aA.out.call hC hP);clear hC hP HH gI;have iC:=aA.out.lt;obtain⟨B,hB⟩:∃ B,u12.heap.size=B:=⟨_,rfl⟩;rw [hB] at iC;have HN:=Z_ (ih n (Nat.le_refl _) (.proc 2) _ _ aA.out.pr HM.out rfl (by decide:(0:Int)≤2∧(2:Int)≤2) (by rw [HT.out];exact ig.out));go_wp2_with fail
   refine HN.out.mono ?_
   rintro e u20 hr;obtain⟨hC,⟨lb,hp,rfl⟩|⟨x20,l20,v20,hp,rfl,hv,hP⟩⟩:=hr.cases (by rw [HT.out];exact ig.out)
   ·have HF:=Z_ (HT.out.symm.trans hp)
    have HC:=Z_ (aA.out.aO.then hC);clear hr hp hC;go_wp2_with fail
    exact⟨rfl,dZ.fails HC.out HF.out⟩
   replace HT:=Z_ (HT.out.symm.trans hp);replace aA:=Z_ (aA.out.call hC hP);obtain⟨QG,QH,QI,QJ,QK,QL,rfl⟩:=bU hv;have JP:=Z_ hv;have JQ:u12.heap.size≤u20.heap.size:=hC.size;clear hr hp hC hP hv HN;rw [hB] at JP;have r0:=aA.out.res.cell;have rf:=aA.out.res.frozen;have rl:=aA.out.res.lt;unfold bQ at r0;go_wp2_with fail
   refine bD rfl rfl rfl ((((aA.out.res.set 0 _).set 1 _).set 2 _).set 3 _) Tryz.underlying24 rfl (by kernel_rfl) ?_
   exact eH aA.out (below B) (JP.out) (cE (by omega)) (fun i hi=>cE (by omega)) (HT.out)
set_option maxRecDepth 100000 in
set_option maxHeartbeats 4000000 in
theorem JS {n:Nat} (ih:∀ m,m≤n→Good m) {W w:World} {S E:Nat} {l:List Tk} {dX:Int} (h:bu W w S E l) (hm:dw W) (Me:0≤dX∧dX≤2) (hne:bJ (n+1) (.proc dX) l≠.out) :
  Calls Tryz.prog 176 #[.pointer (some ⟨S,0,none⟩),.int .i64 dX] w (dZ (VN w.heap.size) W w S E (bJ (n+1) (.proc dX) l)):=by
 obtain⟨T,hT⟩:∃ T,bJ (n+1) (.proc dX) l=T:=⟨_,rfl⟩;rw [hT] at hne ⊢;simp only [bJ] at hT;have HT:=Z_ hT;have ig:=Z_ hne;have HM:=Z_ hm;have aA:Hid (At W w (w.alloc (.cells #[.int .i64 0,.string ⟨#[]⟩,.int .i64 0,.slice none 0 0] 24)) S E w.heap.size l):=Z_ (At.start h);obtain⟨A,hA⟩:∃ A,w.heap.size=A:=⟨_,rfl⟩;rw [hA] at aA;have MW:S<A:=by have:=h.lt;omega
 clear h hm hne hT;go_enter Tryz.func176,Tryz.ntmps176
 go_upto_region 1 with (fail)
 generalize w.alloc (.cells #[.int .i64 0,.string ⟨#[]⟩,.int .i64 0,.slice none 0 0] 24)=u0 at *;have BW:=Z_ Me;clear Me;have HN:=Z_ (name_any aA.out.pr HM.out);go_wp2_with fail
 refine HN.out.mono ?_
 rintro e u1 hr;obtain⟨hC,⟨lb,hp,rfl⟩|⟨s1,l1,v,hp,rfl,⟨rfl,hs⟩,hP⟩⟩:=hr.cases (iI _)
 ·have HF:=Z_ (Out.aF HT.out hp)
  have HC:=Z_ (aA.out.aO.then hC);clear hr hp hC;go_wp2_with fail
  exact⟨rfl,dZ.fails HC.out HF.out⟩
 replace HT:=Z_ (Out.aG HT.out hp);replace aA:=Z_ (aA.out.call hC hP);have lM:=Z_ hs;clear hr hp hC hP HN;clear hs;generalize s1=s at *;go_wp2_with fail
 refine(dG _ _ _ _ _ _ _).mono ?_
 rintro e u2 ⟨rfl,hE⟩;replace aA:=Z_ (aA.out.extend hE);have HB:=Z_ ((aA.out.alloc (.cells #[.int .i64 (4),.string s,.int .i64 (dX),.slice none 0 0] 24)).Sz (aH.made u2 _ _) aA.out.lt);obtain⟨N,hN⟩:∃ N,u2.heap.size=N:=⟨_,rfl⟩;rw [hN] at HB;clear hE aA;go_upto_region 2 with (fail)
 generalize u2.alloc (.cells #[.int .i64 (4),.string s,.int .i64 (dX),.slice none 0 0] 24)=v0 at *;have aA:=Z_ HB.out.at;have HN:=Z_ (cg (aA.out.pr.alloc (.cells #[.string iz] 9)) v0.heap.size 1 iz ((aH.made v0 #[.string iz] 9).cell 0));have eM:=(aB.refl (fun _=>False) v0).alloc (.cells #[.string iz] 9);replace HB:=Z_ (HB.out.extend eM);replace aA:=Z_ HB.out.at;clear eM;go_wp2_with fail
 refine HN.out.mono ?_
 rintro e u3 hr;obtain⟨hC,⟨lb,hp,rfl⟩|⟨_,l3,_,hp,rfl,rfl,hP⟩⟩:=hr.cases (dh _ _)
 ·have HF:=Z_ (Out.aF HT.out hp)
  have HC:=Z_ (aA.out.aO.then hC);clear hr hp hC;go_wp2_with fail
  exact⟨rfl,dZ.fails HC.out HF.out⟩
 replace HT:=Z_ (Out.aG HT.out hp);replace HB:=Z_ (HB.out.call hC hP (by have:=bC.aV hp;omega));replace aA:=Z_ HB.out.at;clear hr hp hC hP HN;go_upto_block 0 with (fail)
 go_cut [] (fun w'=>∃ (mm:Nat) (acc:List Nd) (row:Value) (l2:List Tk),mm≤n∧Hid ((fun (mm:Nat) (acc:List Nd) (l:List Tk)=>(dU dI l).bind fun _ l=>(dF l).bind fun b l=>if fO l [ou]=true then (dF l.tail).bind fun g l=>(bJ mm .block l).bind fun x l=>.got (.mk 4 s (dX+b+(4+4*g)) (acc ++ [x])) l else (bJ mm .block l).bind fun x l=>.got (.mk 4 s (dX+b) (acc ++ [x])) l) mm acc l2=T)∧Hid (iT W w w' S E A N l2 4 s dX row row acc))
 case first=>
  go_wp2_with fail
  go_loopg [] n (fun k wr=>∃ l2 acc row,k≤n∧Hid (bJ k (.params s dX acc) l2=T)∧Hid (iT W w wr S E A N l2 4 s dX row row acc))
  case atStart=>exact⟨l3,[],.slice none 0 0,Nat.le_refl _,HT,HB⟩
  clear HT HB aA
  case round=>
   obtain⟨lr,acc,row,hkn,HT,HB⟩:=hrel;cases gk with
   | zero=>exact absurd HT.out.symm ig.out
   | succ m=>
    have HT0:=HT.out;clear HT;simp only [bJ] at HT0;have HT:=Z_ HT0;clear HT0;have aA:=Z_ HB.out.at;obtain⟨ra,rc,rfl⟩:=HB.out.slice
    have HH:=Z_ (sW (aA.out.pr.alloc (.cells #[.string dI] 9)) wr.heap.size [dI] 1 1 rfl (by decide) (fun j hj=>by
     obtain rfl:j=0:=by simpa using hj
     exact(aH.made wr #[.string dI] 9).cell 0) (by simp))
    have eM:=(aB.refl (fun _=>False) wr).alloc (.cells #[.string dI] 9);replace HB:=Z_ (HB.out.extend eM);replace aA:=Z_ HB.out.at;clear eM;generalize fO lr [dI]=R at *;go_wp2_with fail
    refine HH.out.mono ?_
    rintro e u4 ⟨rfl,hE⟩;replace HB:=Z_ (HB.out.extend hE);replace aA:=Z_ HB.out.at;clear hE HH;cases R with
    | false=>
     have HT0:=HT.out;clear HT;simp only [Bool.false_eq_true,false_and,↓reduceIte] at HT0;have HT:=Z_ HT0;clear HT0;have HN:=Z_ (dD aA.out.pr);go_wp2_with fail
     refine HN.out.mono ?_
     rintro e u5 hr;obtain⟨hC,⟨lb,hp,rfl⟩|⟨b5,l5,v,hp,rfl,⟨rfl,hb0,hb1⟩,hP⟩⟩:=hr.cases (iZ _)
     ·have HF:=Z_ (Out.aF HT.out hp)
      have HC:=Z_ (aA.out.aO.then hC);clear hr hp hC;go_wp2_with fail
      exact⟨rfl,dZ.fails HC.out HF.out⟩
     replace HT:=Z_ (Out.aG HT.out hp);replace HB:=Z_ (HB.out.call hC hP (by have:=bC.dL hp;omega));replace aA:=Z_ HB.out.at;have HBP:=Z_ (And.intro hb0 hb1);clear hr hp hC hP HN;clear hb0 hb1;go_upto_region 5 with (fail)
     refine ah [3,5,6,7,9] (fun i v _=>v=([.pointer (some ⟨N,3,none⟩),(.slice ra acc.length rc),.pointer (some ⟨S,0,none⟩),undef,.int .i64 b5,undef,undef,undef,.pointer (some ⟨N,3,none⟩),undef]:List Value).getD i undef) (tX W w S E A N l5 4 s dX (.slice ra acc.length rc) acc 5 b5) (fun _ _=>True) (frame:=?Bd) (fun x=>?o7) mixed (by kernel_rfl) (by kernel_rfl) (fun _ _ _ _ h _=>h) ?Be ?Bf ?o8
     case o7=>
      simp only [chain.aK,chain.fill,chain.bf,chain.aW,jJ,jK,jL,jM,jO,jP,jQ,jR,jS];exact rfl
     case Be=>exact HB.out.extend (aB.refl _ _).drew
     case Bf=>
      iterate 10 (refine ai.cons (fun x vs u hF hm hb hd K' hK'=>?_) ?_;rotate_left)
      exact ai.nil
      ·have HF:=Z_ hF;clear hd hm hb hF;go_simp;exact hK'.out _ _ _ rfl trivial ⟨rfl,HF.out⟩
      ·have y0:x 26=.pointer (some ⟨N,3,none⟩):=(D_ hd 0 :);have hc:=hF.cell (by have:=hb 3 _ (by decide) rfl (by kernel_rfl);omega);have HF:=Z_ hF;clear hd hm hb hF;go_simp;exact hK'.out _ _ _ (by simp only [y0];rfl) trivial ⟨rfl,HF.out⟩
      ·have HF:=Z_ hF;clear hd hm hb hF;go_simp;exact hK'.out _ _ _ rfl trivial ⟨rfl,HF.out⟩
      ·have y0:x 28=.pointer (some ⟨S,0,none⟩):=(D_ hd 2 :);obtain rfl:=kF hm;have HF:=Z_ (show iT _ _ _ _ _ _ _ _ _ _ _ _ _ _ from hF);clear hd hm hb hF;have jv:=Z_ (name_any HF.out.pr HM.out);go_simp;refine jv.out.mono ?_
       rintro e u2 hr;obtain⟨hC,⟨lb,hp,rfl⟩|⟨sn,lx,v,hp,rfl,⟨rfl,hsz⟩,hP⟩⟩:=hr.cases (iI _)
       ·have HE:=Z_ (Out.aF HT.out hp)
        have HC:=Z_ (HF.out.aO.then hC);clear hr hp hC hK' jv;go_wp2_with fail
        exact⟨rfl,dZ.fails HC.out HE.out⟩
       ·exact hK'.out _ _ _ (by simp only [y0];rfl) trivial (qQ HF.out hC hp hsz hP)
      ·have HF:=Z_ hF;clear hd hm hb hF;go_simp;exact hK'.out _ _ _ rfl trivial ⟨rfl,HF.out⟩
      ·obtain⟨v0,rfl⟩:=lK hm
       have y0:x 29=v0:=((D_ hd 3) 29 (by kernel_rfl) :);have y1:x 30=.int .i64 b5:=(D_ hd 4 :);have hcl:∃ s,v0=.string s:=by obtain⟨s,ln,_,e,_⟩:=hF;exact⟨s,e⟩
       obtain⟨sn,rfl⟩:=hcl;have HF:=Z_ hF;clear hd hm hb hF;go_simp;refine(dG _ _ _ _ _ _ _).mono ?_
       rintro e u2 ⟨rfl,hE⟩;exact hK'.out _ _ _ (by simp only [y0,y1];rfl) trivial (qR HF.out hE)
      ·obtain⟨vz,v0,rfl⟩:∃ vz v0,vs=[vz,v0]:=by match vs,hm 2 (by kernel_rfl) with|[vz,v0],_=>exact⟨_,_,rfl⟩
       have y0:x 31=v0:=((D_ hd 5) 31 (by kernel_rfl) :);replace hF:fK W w S E A N l5 4 s dX (.slice ra acc.length rc) acc (mg 5 b5 l5) [v0] u:=hF;have hcl:∃ a b c d,v0=.agg #[a,b,c,d]:=by obtain⟨xn,ln,_,_,_,hx⟩:=hF;obtain⟨a,b,c,d,h,_⟩:=bz hx;exact⟨a,b,c,d,h⟩
       obtain⟨a0,b0,c0,d0,rfl⟩:=hcl;have HF:=Z_ hF;clear hd hm hb hF;go_simp;exact hK'.out _ _ _ (by simp only [y0];rfl) trivial (dO HF.out rfl)
      ·obtain⟨vz,v0,v1,rfl⟩:∃ vz v0 v1,vs=[vz,v0,v1]:=by match vs,hm 3 (by kernel_rfl) with|[vz,v0,v1],_=>exact⟨_,_,_,rfl⟩
       have y0:x 27=(.slice ra acc.length rc):=(D_ hd 1 :);have y1:x 32=v1:=((D_ hd 6) 32 (by kernel_rfl) :);replace hF:fK W w S E A N l5 4 s dX (.slice ra acc.length rc) acc (mg 5 b5 l5) [v0,v1] u:=hF;have hF2:=hF;obtain⟨xn,ln,hT1,aP,hfew,hx,gg,rfl,hgb,hgr⟩:=hF2;obtain⟨us,hu1,ho,hu3⟩:=aP.grow.ex;have hlt:=aP.lt;obtain⟨jc,jd,hz0,hz1,hz2⟩:=aX eP;refine wp_append_lies _ _ _ 22 rfl (N+1) 24 jc (.agg #[.int .i64 0,.string ⟨#[]⟩,.int .i64 0,.slice none 0 0]) 4 56 Tryz.underlying22 jd hz0 hz1 hz2 rfl (by decide) (.slice ra acc.length rc) acc.length (us.flatMap fun u=>u.cells.toList) y0 ho ⟨gg,0,none⟩ 1 1 v0.cells.toList y1 (by rw [Array.length_toList,fA hx]) ?_ (by obtain⟨a,b,c,d,e,e2,p1,p2,p3,p4⟩:=bz hx;rw [e2];intro q hq;simp at hq;rcases hq with rfl|rfl|rfl|rfl<;>assumption) (by decide) (by unfold maxLen;omega) (by omega) (by omega) u.heap.size rfl ?_
       ·intro j q hj;have e:(⟨gg,0,none⟩:Addr).add j=⟨gg,j,none⟩:=(by unfold Addr.add;split<;>simp_all);rw [e,hgb.cell];simpa using hj
       ·intro g9 c9 w9 iQ iJ jU qF
        exact hK'.out _ _ _ rfl trivial (push_append hF hu1 hu3 iQ iJ jU)
      ·have HF:=Z_ hF;clear hd hm hb hF;go_simp;exact hK'.out _ _ _ rfl trivial ⟨rfl,HF.out⟩
      ·obtain⟨vz,v0,v1,v2,rfl⟩:∃ vz v0 v1 v2,vs=[vz,v0,v1,v2]:=by match vs,hm 4 (by kernel_rfl) with|[vz,v0,v1,v2],_=>exact⟨_,_,_,_,rfl⟩
       have y0:x 34=.pointer (some ⟨N,3,none⟩):=(D_ hd 8 :);have y1:x 33=v2:=((D_ hd 7) 33 (by kernel_rfl) :);replace hF:fK W w S E A N l5 4 s dX (.slice ra acc.length rc) acc (mg 5 b5 l5) [v0,v1,v2] u:=hF;have hF2:=hF;obtain⟨xn,ln,hT1,aP,gg,cc,rfl⟩:=hF2;have hc:=aP.nd.cell 3;have hf:=aP.nd.frozen 3;have hl:=aP.lt;simp at hc
       have HF:=Z_ hF;clear hd hm hb hF aP hT1;go_simp;exact hK'.out _ _ undef (by simp only [y0,y1];rfl) trivial (dP (z:=undef) HF.out)
     case o8=>
      intro x vs w9 hl hF hk;obtain⟨vz,v0,v1,v2,v3,rfl⟩:∃ vz v0 v1 v2 v3,vs=[vz,v0,v1,v2,v3]:=by match vs,hl with|[vz,v0,v1,v2,v3],_=>exact⟨_,_,_,_,_,rfl⟩
      obtain⟨xn,ln,hT1,jG⟩:=hF;clear hk hl;have hT2:=hT1.out;unfold mg at hT2;obtain⟨sn,lz,hq1,hq2⟩:=bC.ag hT2;injection hq2 with hq3 hq4
      subst hq3 hq4;replace HT:=Z_ (Out.aG HT.out hq1);replace HB:=Z_ jG;replace aA:=Z_ HB.out.at;clear hT1 jG hT2 hq1;have HH:=Z_ (cZ aA.out.pr jE);have gI:=Z_ (fun (h:fO lz [jE]=true)=>bC.aU h);generalize fO lz [jE]=R at *;go_wp2_with fail
      refine HH.out.mono ?_
      rintro e u6 ⟨rfl,hC,hP⟩;cases R with
      | false=>
       replace hP:bu W u6 S E lz:=by simpa using hP
       have HT0:=HT.out;clear HT;simp only [Bool.false_eq_true,↓reduceIte] at HT0;have HT:=Z_ HT0;clear HT0;replace HB:=Z_ (HB.out.call hC hP (Nat.le_refl _));replace aA:=Z_ HB.out.at;clear hC hP HH gI;go_wp2_with fail
       go_meet
       exact⟨m,acc ++ [.mk 5 sn b5 []],v2,lz,by omega,HT,HB⟩
      | true=>
       replace hP:bu W u6 S E lz.tail:=by simpa using hP
       have HT0:=HT.out;clear HT;simp only [↓reduceIte] at HT0;have HT:=Z_ HT0;clear HT0;replace HB:=Z_ (HB.out.call hC hP (by have:=gI.out rfl;omega));replace aA:=Z_ HB.out.at;clear hC hP HH gI;go_wp2_with fail
       go_roundg m
       case rel=>exact⟨lz.tail,acc ++ [.mk 5 sn b5 []],v2,by omega,HT,HB⟩
       case measure=>omega
    | true=>
     have c3:=HB.out.nd.cell 3;simp at c3
     by_cases hl0:acc.length=0
     ·have HT0:=HT.out
      clear HT;simp only [hl0,and_self,↓reduceIte] at HT0;have HT:=Z_ HT0;clear HT0;have HB2:Hid (∃ row,iT W w u4 S E A N lr 4 s dX row row acc):=Z_ ⟨_,HB.out⟩;clear HB aA;rw [hl0] at c3;go_wp2_with fail
      go_meet
      obtain⟨row,HB⟩:=HB2.out;exact⟨m,acc,row,lr,by omega,HT,Z_ HB⟩
     ·have HT0:=HT.out
      clear HT;simp only [hl0,and_false,↓reduceIte] at HT0;have HT:=Z_ HT0;clear HT0;have hl1:0<acc.length:=by omega
      have HN:=Z_ (dD aA.out.pr);go_wp2_with fail
      refine HN.out.mono ?_
      rintro e u6 hr;obtain⟨hC,⟨lb,hp,rfl⟩|⟨b6,l6,v,hp,rfl,⟨rfl,hb0,hb1⟩,hP⟩⟩:=hr.cases (iZ _)
      ·have HF:=Z_ (Out.aF HT.out hp)
       have HC:=Z_ (aA.out.aO.then hC);clear hr hp hC;go_wp2_with fail
       exact⟨rfl,dZ.fails HC.out HF.out⟩
      replace HT:=Z_ (Out.aG HT.out hp);replace HB:=Z_ (HB.out.call hC hP (by have:=bC.dL hp;omega));replace aA:=Z_ HB.out.at;have HBP:=Z_ (And.intro hb0 hb1);clear hr hp hC hP HN;clear hb0 hb1;go_upto_region 5 with (fail)
      refine ah [3,5,6,7,9] (fun i v _=>v=([.pointer (some ⟨N,3,none⟩),(.slice ra acc.length rc),.pointer (some ⟨S,0,none⟩),undef,.int .i64 b6,undef,undef,undef,.pointer (some ⟨N,3,none⟩),undef]:List Value).getD i undef) (tX W w S E A N l6 4 s dX (.slice ra acc.length rc) acc 5 b6) (fun _ _=>True) (frame:=?Ah) (fun x=>?oQ) mixed (by kernel_rfl) (by kernel_rfl) (fun _ _ _ _ h _=>h) ?Ai ?Aj ?oU
      case oQ=>
       simp only [chain.aK,chain.fill,chain.bf,chain.aW,jJ,jK,jL,jM,jO,jP,jQ,jR,jS];exact rfl
      case Ai=>exact HB.out.extend (aB.refl _ _).drew
      case Aj=>
       iterate 10 (refine ai.cons (fun x vs u hF hm hb hd K' hK'=>?_) ?_;rotate_left)
       exact ai.nil
       ·have HF:=Z_ hF;clear hd hm hb hF;go_simp;exact hK'.out _ _ _ rfl trivial ⟨rfl,HF.out⟩
       ·have y0:x 26=.pointer (some ⟨N,3,none⟩):=(D_ hd 0 :);have hc:=hF.cell (by have:=hb 3 _ (by decide) rfl (by kernel_rfl);omega);have HF:=Z_ hF;clear hd hm hb hF;go_simp;exact hK'.out _ _ _ (by simp only [y0];rfl) trivial ⟨rfl,HF.out⟩
       ·have HF:=Z_ hF;clear hd hm hb hF;go_simp;exact hK'.out _ _ _ rfl trivial ⟨rfl,HF.out⟩
       ·have y0:x 28=.pointer (some ⟨S,0,none⟩):=(D_ hd 2 :);obtain rfl:=kF hm;have HF:=Z_ (show iT _ _ _ _ _ _ _ _ _ _ _ _ _ _ from hF);clear hd hm hb hF;have jv:=Z_ (name_any HF.out.pr HM.out);go_simp;refine jv.out.mono ?_
        rintro e u2 hr;obtain⟨hC,⟨lb,hp,rfl⟩|⟨sn,lx,v,hp,rfl,⟨rfl,hsz⟩,hP⟩⟩:=hr.cases (iI _)
        ·have HE:=Z_ (Out.aF HT.out hp)
         have HC:=Z_ (HF.out.aO.then hC);clear hr hp hC hK' jv;go_wp2_with fail
         exact⟨rfl,dZ.fails HC.out HE.out⟩
        ·exact hK'.out _ _ _ (by simp only [y0];rfl) trivial (qQ HF.out hC hp hsz hP)
       ·have HF:=Z_ hF;clear hd hm hb hF;go_simp;exact hK'.out _ _ _ rfl trivial ⟨rfl,HF.out⟩
       ·obtain⟨v0,rfl⟩:=lK hm
        have y0:x 29=v0:=((D_ hd 3) 29 (by kernel_rfl) :);have y1:x 30=.int .i64 b6:=(D_ hd 4 :);have hcl:∃ s,v0=.string s:=by obtain⟨s,ln,_,e,_⟩:=hF;exact⟨s,e⟩
        obtain⟨sn,rfl⟩:=hcl;have HF:=Z_ hF;clear hd hm hb hF;go_simp;refine(dG _ _ _ _ _ _ _).mono ?_
        rintro e u2 ⟨rfl,hE⟩;exact hK'.out _ _ _ (by simp only [y0,y1];rfl) trivial (qR HF.out hE)
       ·obtain⟨vz,v0,rfl⟩:∃ vz v0,vs=[vz,v0]:=by match vs,hm 2 (by kernel_rfl) with|[vz,v0],_=>exact⟨_,_,rfl⟩
        have y0:x 31=v0:=((D_ hd 5) 31 (by kernel_rfl) :);replace hF:fK W w S E A N l6 4 s dX (.slice ra acc.length rc) acc (mg 5 b6 l6) [v0] u:=hF;have hcl:∃ a b c d,v0=.agg #[a,b,c,d]:=by obtain⟨xn,ln,_,_,_,hx⟩:=hF;obtain⟨a,b,c,d,h,_⟩:=bz hx;exact⟨a,b,c,d,h⟩
        obtain⟨a0,b0,c0,d0,rfl⟩:=hcl;have HF:=Z_ hF;clear hd hm hb hF;go_simp;exact hK'.out _ _ _ (by simp only [y0];rfl) trivial (dO HF.out rfl)
       ·obtain⟨vz,v0,v1,rfl⟩:∃ vz v0 v1,vs=[vz,v0,v1]:=by match vs,hm 3 (by kernel_rfl) with|[vz,v0,v1],_=>exact⟨_,_,_,rfl⟩
        have y0:x 27=(.slice ra acc.length rc):=(D_ hd 1 :);have y1:x 32=v1:=((D_ hd 6) 32 (by kernel_rfl) :);replace hF:fK W w S E A N l6 4 s dX (.slice ra acc.length rc) acc (mg 5 b6 l6) [v0,v1] u:=hF;have hF2:=hF;obtain⟨xn,ln,hT1,aP,hfew,hx,gg,rfl,hgb,hgr⟩:=hF2;obtain⟨us,hu1,ho,hu3⟩:=aP.grow.ex;have hlt:=aP.lt;obtain⟨jc,jd,hz0,hz1,hz2⟩:=aX eP;refine wp_append_lies _ _ _ 22 rfl (N+1) 24 jc (.agg #[.int .i64 0,.string ⟨#[]⟩,.int .i64 0,.slice none 0 0]) 4 56 Tryz.underlying22 jd hz0 hz1 hz2 rfl (by decide) (.slice ra acc.length rc) acc.length (us.flatMap fun u=>u.cells.toList) y0 ho ⟨gg,0,none⟩ 1 1 v0.cells.toList y1 (by rw [Array.length_toList,fA hx]) ?_ (by obtain⟨a,b,c,d,e,e2,p1,p2,p3,p4⟩:=bz hx;rw [e2];intro q hq;simp at hq;rcases hq with rfl|rfl|rfl|rfl<;>assumption) (by decide) (by unfold maxLen;omega) (by omega) (by omega) u.heap.size rfl ?_
        ·intro j q hj;have e:(⟨gg,0,none⟩:Addr).add j=⟨gg,j,none⟩:=(by unfold Addr.add;split<;>simp_all);rw [e,hgb.cell];simpa using hj
        ·intro g9 c9 w9 iQ iJ jU qF
         exact hK'.out _ _ _ rfl trivial (push_append hF hu1 hu3 iQ iJ jU)
       ·have HF:=Z_ hF;clear hd hm hb hF;go_simp;exact hK'.out _ _ _ rfl trivial ⟨rfl,HF.out⟩
       ·obtain⟨vz,v0,v1,v2,rfl⟩:∃ vz v0 v1 v2,vs=[vz,v0,v1,v2]:=by match vs,hm 4 (by kernel_rfl) with|[vz,v0,v1,v2],_=>exact⟨_,_,_,_,rfl⟩
        have y0:x 34=.pointer (some ⟨N,3,none⟩):=(D_ hd 8 :);have y1:x 33=v2:=((D_ hd 7) 33 (by kernel_rfl) :);replace hF:fK W w S E A N l6 4 s dX (.slice ra acc.length rc) acc (mg 5 b6 l6) [v0,v1,v2] u:=hF;have hF2:=hF;obtain⟨xn,ln,hT1,aP,gg,cc,rfl⟩:=hF2;have hc:=aP.nd.cell 3;have hf:=aP.nd.frozen 3;have hl:=aP.lt;simp at hc
        have HF:=Z_ hF;clear hd hm hb hF aP hT1;go_simp;exact hK'.out _ _ undef (by simp only [y0,y1];rfl) trivial (dP (z:=undef) HF.out)
      case oU=>
       intro x vs w9 hl hF hk;obtain⟨vz,v0,v1,v2,v3,rfl⟩:∃ vz v0 v1 v2 v3,vs=[vz,v0,v1,v2,v3]:=by match vs,hl with|[vz,v0,v1,v2,v3],_=>exact⟨_,_,_,_,_,rfl⟩
       obtain⟨xn,ln,hT1,jG⟩:=hF;clear hk hl;have hT2:=hT1.out;unfold mg at hT2;obtain⟨sn,lz,hq1,hq2⟩:=bC.ag hT2;injection hq2 with hq3 hq4
       subst hq3 hq4;replace HT:=Z_ (Out.aG HT.out hq1);replace HB:=Z_ jG;replace aA:=Z_ HB.out.at;clear hT1 jG hT2 hq1;have HH:=Z_ (cZ aA.out.pr jE);have gI:=Z_ (fun (h:fO lz [jE]=true)=>bC.aU h);generalize fO lz [jE]=R at *;go_wp2_with fail
       refine HH.out.mono ?_
       rintro e u7 ⟨rfl,hC,hP⟩;cases R with
       | false=>
        replace hP:bu W u7 S E lz:=by simpa using hP
        have HT0:=HT.out;clear HT;simp only [Bool.false_eq_true,↓reduceIte] at HT0;have HT:=Z_ HT0;clear HT0;replace HB:=Z_ (HB.out.call hC hP (Nat.le_refl _));replace aA:=Z_ HB.out.at;clear hC hP HH gI;go_wp2_with fail
        go_meet
        exact⟨m,acc ++ [.mk 5 sn b6 []],v2,lz,by omega,HT,HB⟩
       | true=>
        replace hP:bu W u7 S E lz.tail:=by simpa using hP
        have HT0:=HT.out;clear HT;simp only [↓reduceIte] at HT0;have HT:=Z_ HT0;clear HT0;replace HB:=Z_ (HB.out.call hC hP (by have:=gI.out rfl;omega));replace aA:=Z_ HB.out.at;clear hC hP HH gI;go_wp2_with fail
        go_roundg m
        case rel=>exact⟨lz.tail,acc ++ [.mk 5 sn b6 []],v2,by omega,HT,HB⟩
        case measure=>omega
 case rest=>
  clear HT HB aA;obtain⟨mm,acc,row,l2,hmm,HT,HB⟩:=hcut;have aA:=Z_ HB.out.at;generalize wc=u7 at *;have HT0:=HT.out;clear HT;simp only at HT0;have HT:=Z_ HT0;clear HT0;have HN:=Z_ (cg (aA.out.pr.alloc (.cells #[.string dI] 9)) u7.heap.size 1 dI ((aH.made u7 #[.string dI] 9).cell 0));have eM:=(aB.refl (fun _=>False) u7).alloc (.cells #[.string dI] 9);replace HB:=Z_ (HB.out.extend eM);replace aA:=Z_ HB.out.at;clear eM;go_wp2_with fail
  refine HN.out.mono ?_
  rintro e u6 hr;obtain⟨hC,⟨lb,hp,rfl⟩|⟨_,l6,_,hp,rfl,rfl,hP⟩⟩:=hr.cases (dh _ _)
  ·have HF:=Z_ (Out.aF HT.out hp)
   have HC:=Z_ (aA.out.aO.then hC);clear hr hp hC;go_wp2_with fail
   exact⟨rfl,dZ.fails HC.out HF.out⟩
  replace HT:=Z_ (Out.aG HT.out hp);replace HB:=Z_ (HB.out.call hC hP (by have:=bC.aV hp;omega));replace aA:=Z_ HB.out.at;clear hr hp hC hP HN;go_upto_region 8 with (fail)
  refine ah [3,4,6] (fun i v _=>v=([.pointer (some ⟨N,2,none⟩),.int .i64 (dX),.pointer (some ⟨S,0,none⟩),undef,undef,.pointer (some ⟨N,2,none⟩),undef]:List Value).getD i undef) (zD W w S E A N l6 4 s (dX) row acc [fun b=>dX+b]) (fun _ _=>True) (frame:=?KX) (fun x=>?uh) mixed (by kernel_rfl) (by kernel_rfl) (fun _ _ _ _ h _=>h) ?h0c ?KY ?yN
  case uh=>
   simp only [chain.aK,chain.fill,chain.bf,chain.aW,jJ,jK,jL,jM,jO,jP,jQ,jR,jS];exact rfl
  case h0c=>exact HB.out.extend (aB.refl _ _).drew
  case KY=>
   iterate 7 (refine ai.cons (fun x vs u hF hm hb hd K' hK'=>?_) ?_;rotate_left)
   exact ai.nil
   ·have HF:=Z_ hF;clear hd hm hb hF;go_simp;exact hK'.out _ _ _ rfl trivial ⟨rfl,HF.out⟩
   ·have y0:x 41=.pointer (some ⟨N,2,none⟩):=(D_ hd 0 :);have hc:=hF.cell (by have:=hb 1 _ (by decide) rfl (by kernel_rfl);simp only [List.length_cons,List.length_nil];omega);have HF:=Z_ hF;clear hd hm hb hF;go_simp;exact hK'.out _ _ _ (by simp only [y0];rfl) trivial ⟨rfl,HF.out⟩
   ·have HF:=Z_ hF;clear hd hm hb hF;go_simp;exact hK'.out _ _ _ rfl trivial ⟨rfl,HF.out⟩
   ·have y0:x 43=.pointer (some ⟨S,0,none⟩):=(D_ hd 2 :);obtain rfl:=kF hm;have HF:=Z_ (show iT _ _ _ _ _ _ _ _ _ _ _ _ _ _ from hF);clear hd hm hb hF;have jv:=Z_ (dD HF.out.pr);go_simp;refine jv.out.mono ?_
    rintro e u2 hr;obtain⟨hC,⟨lb,hp,rfl⟩|⟨sn,lx,v,hp,rfl,⟨rfl,hb0,hb1⟩,hP⟩⟩:=hr.cases (iZ _)
    ·have HE:=Z_ (Out.aF HT.out hp)
     have HC:=Z_ (HF.out.aO.then hC);clear hr hp hC hK' jv;go_wp2_with fail
     exact⟨rfl,dZ.fails HC.out HE.out⟩
    ·exact hK'.out _ _ _ (by simp only [y0];rfl) trivial (x_ HF.out hC hp hb0 hb1 hP)
   ·obtain⟨vb,rfl⟩:∃ vb,vs=[vb]:=by match vs,hm 1 (by kernel_rfl) with|[vb],_=>exact⟨_,rfl⟩
    have hcl:∃ b,vb=.int .i64 b∧0≤b∧b≤1:=by obtain⟨b,l',_,e,h0,h1,hs,_⟩:=hF;exact⟨b,e,h0,h1⟩
    obtain⟨b,rfl,hb0,hb1⟩:=hcl;have y0:x 44=.int .i64 (b):=((D_ hd 3) 44 (by kernel_rfl) :);have y1:x 42=.int .i64 (dX):=(D_ hd 1 :);obtain⟨hw8,QM⟩:=nT (n:=dX+b) (by have:=BW.out;omega) (by have:=BW.out;omega);have HF:=Z_ hF;clear hd hm hb hF;go_simp;exact hK'.out _ _ _ (by simp only [y0,y1];rfl) trivial (by first|exact rS (r:=[]) HF.out (by simp) rfl)
   ·have HF:=Z_ hF;clear hd hm hb hF;go_simp;exact hK'.out _ _ _ rfl trivial ⟨rfl,HF.out⟩
   ·obtain⟨vb,v0,rfl⟩:∃ vb v0,vs=[vb,v0]:=by match vs,hm 2 (by kernel_rfl) with|[vb,v0],_=>exact⟨_,_,rfl⟩
    have hcl:∃ b,vb=.int .i64 b∧0≤b∧b≤1∧v0=.int .i64 (dX+b):=by obtain⟨b,l',_,e,h0,h1,hs,_⟩:=hF;exact⟨b,e,h0,h1,by have:=hs 0 (by simp) (by simp);simpa using this⟩
    obtain⟨b,rfl,hb0,hb1,rfl⟩:=hcl;have y0:x 46=.pointer (some ⟨N,2,none⟩):=(D_ hd 5 :);have y1:x 45=.int .i64 (dX+b):=((D_ hd 4) 45 (by kernel_rfl) :);have aP:∃ l',iT W w u S E A N l' 4 s (dX) row row acc:=by obtain⟨b',l',_,_,_,_,_,h⟩:=hF;exact⟨l',h⟩
    obtain⟨l',aP⟩:=aP;have hc:=aP.nd.cell 2;have hf:=aP.nd.frozen 2;have hl:=aP.lt;simp at hc
    clear aP;have HF:=Z_ hF;clear hd hm hb hF;go_simp;exact hK'.out _ _ undef (by simp only [y0,y1];rfl) trivial (yc (r:=[.int .i64 (dX+b)]) (z:=undef) HF.out (by simp) rfl)
  case yN=>
   intro x vs w9 hl hF hk;obtain⟨vb,v0,vz,rfl⟩:∃ vb v0 vz,vs=[vb,v0,vz]:=by match vs,hl with|[vb,v0,vz],_=>exact⟨_,_,_,rfl⟩
   obtain⟨bc,DJ,hT1,-,hb0,hb1,-,jG⟩:=hF;replace jG:iT W w w9 S E A N DJ 4 s (dX+bc) row row acc:=jG;clear hk hl;replace HT:=Z_ (Out.aG HT.out hT1.out);have SA:=Z_ (And.intro hb0 hb1);replace HB:=Z_ jG;replace aA:=Z_ HB.out.at;clear hT1 jG hb0 hb1;have HH:=Z_ (cZ aA.out.pr ou);have gI:=Z_ (fun (h:fO DJ [ou]=true)=>bC.aU h);generalize fO DJ [ou]=R at *;go_wp2_with fail
   refine HH.out.mono ?_
   rintro e u7 ⟨rfl,hC,hP⟩;cases R with
   | false=>
    replace hP:bu W u7 S E DJ:=by simpa using hP
    have HT0:=HT.out;clear HT;simp only [Bool.false_eq_true,↓reduceIte] at HT0;have HT:=Z_ HT0;clear HT0;replace HB:=Z_ (HB.out.call hC hP (Nat.le_refl _));replace aA:=Z_ HB.out.at;clear hC hP HH gI;go_upto_region 11 with (fail)
    refine ah [3,4,5,7] (fun i v _=>v=([.pointer (some ⟨N,3,none⟩),row,.pointer (some ⟨S,0,none⟩),undef,undef,undef,.pointer (some ⟨N,3,none⟩),undef]:List Value).getD i undef) (fK W w S E A N DJ 4 s (dX+bc) row acc (bJ mm .block DJ)) (fun _ _=>True) (frame:=?Ud) (fun x=>?IM) mixed (by kernel_rfl) (by kernel_rfl) (fun _ _ _ _ h _=>h) ?Ue ?Uf ?find
    case IM=>
     simp only [chain.aK,chain.fill,chain.bf,chain.aW,jJ,jK,jL,jM,jO,jP,jQ,jR,jS];exact rfl
    case Ue=>exact HB.out.extend (aB.refl _ _).drew
    case Uf=>
     iterate 8 (refine ai.cons (fun x vs u hF hm hb hd K' hK'=>?_) ?_;rotate_left)
     exact ai.nil
     ·have HF:=Z_ hF;clear hd hm hb hF;go_simp;exact hK'.out _ _ _ rfl trivial ⟨rfl,HF.out⟩
     ·have y0:x 57=.pointer (some ⟨N,3,none⟩):=(D_ hd 0 :);have hc:=hF.cell (by have:=hb 2 _ (by decide) rfl (by kernel_rfl);omega);have HF:=Z_ hF;clear hd hm hb hF;go_simp;exact hK'.out _ _ _ (by simp only [y0];rfl) trivial ⟨rfl,HF.out⟩
     ·have HF:=Z_ hF;clear hd hm hb hF;go_simp;exact hK'.out _ _ _ rfl trivial ⟨rfl,HF.out⟩
     ·have y0:x 59=.pointer (some ⟨S,0,none⟩):=(D_ hd 2 :);obtain rfl:=kF hm;have HF:=Z_ (show iT _ _ _ _ _ _ _ _ _ _ _ _ _ _ from hF);clear hd hm hb hF;have jv:=Z_ (ih mm hmm .block _ _ HF.out.pr HM.out rfl trivial (Out.bg HT.out ig.out));go_simp;refine jv.out.mono ?_
      rintro e u2 hr;obtain⟨hC,⟨lb,hp,rfl⟩|⟨xn,ln,v,hp,rfl,hv,hP⟩⟩:=hr.cases (Out.bg HT.out ig.out)
      ·have HE:=Z_ (Out.aF HT.out hp)
       have HC:=Z_ (HF.out.aO.then hC);clear hr hp hC hK' jv;go_wp2_with fail
       exact⟨rfl,dZ.fails HC.out HE.out⟩
      ·exact hK'.out _ _ _ (by simp only [y0];rfl) trivial (f_ HF.out hC hp hv hP (bC.dJ _ _ _ _ _ hp))
     ·obtain⟨v0,rfl⟩:=lK hm
      have y0:x 60=v0:=((D_ hd 3) 60 (by kernel_rfl) :);have hcl:∃ a b c d,v0=.agg #[a,b,c,d]:=by obtain⟨xn,ln,_,_,_,hx⟩:=hF;obtain⟨a,b,c,d,h,_⟩:=bz hx;exact⟨a,b,c,d,h⟩
      obtain⟨a0,b0,c0,d0,rfl⟩:=hcl;have HF:=Z_ hF;clear hd hm hb hF;go_simp;exact hK'.out _ _ _ (by simp only [y0];rfl) trivial (dO HF.out rfl)
     ·obtain⟨v0,v1,rfl⟩:=qX hm
      have y0:x 58=row:=(D_ hd 1 :);have y1:x 61=v1:=((D_ hd 4) 61 (by kernel_rfl) :);have hF2:=hF;obtain⟨xn,ln,hT1,aP,hfew,hx,gg,rfl,hgb,hgr⟩:=hF2;obtain⟨us,hu1,ho,hu3⟩:=aP.grow.ex;have hlt:=aP.lt;obtain⟨jc,jd,hz0,hz1,hz2⟩:=aX eP;refine wp_append_lies _ _ _ 22 rfl (N+1) 24 jc (.agg #[.int .i64 0,.string ⟨#[]⟩,.int .i64 0,.slice none 0 0]) 4 56 Tryz.underlying22 jd hz0 hz1 hz2 rfl (by decide) row acc.length (us.flatMap fun u=>u.cells.toList) y0 ho ⟨gg,0,none⟩ 1 1 v0.cells.toList y1 (by rw [Array.length_toList,fA hx]) ?_ (by obtain⟨a,b,c,d,e,e2,p1,p2,p3,p4⟩:=bz hx;rw [e2];intro q hq;simp at hq;rcases hq with rfl|rfl|rfl|rfl<;>assumption) (by decide) (by unfold maxLen;omega) (by omega) (by omega) u.heap.size rfl ?_
      ·intro j q hj;have e:(⟨gg,0,none⟩:Addr).add j=⟨gg,j,none⟩:=(by unfold Addr.add;split<;>simp_all);rw [e,hgb.cell];simpa using hj
      ·intro g9 c9 w9 iQ iJ jU qF
       exact hK'.out _ _ _ rfl trivial (push_append hF hu1 hu3 iQ iJ jU)
     ·have HF:=Z_ hF;clear hd hm hb hF;go_simp;exact hK'.out _ _ _ rfl trivial ⟨rfl,HF.out⟩
     ·obtain⟨v0,v1,v2,rfl⟩:=xy hm
      have y0:x 63=.pointer (some ⟨N,3,none⟩):=(D_ hd 6 :);have y1:x 62=v2:=((D_ hd 5) 62 (by kernel_rfl) :);have hF2:=hF;obtain⟨xn,ln,hT1,aP,gg,cc,rfl⟩:=hF2;have hc:=aP.nd.cell 3;have hf:=aP.nd.frozen 3;have hl:=aP.lt;simp at hc
      have HF:=Z_ hF;clear hd hm hb hF aP hT1;go_simp;exact hK'.out _ _ undef (by simp only [y0,y1];rfl) trivial (dP HF.out)
    case find=>
     intro x vs w9 hl hF hk;obtain⟨v0,v1,v2,v3,rfl⟩:=xA hl
     obtain⟨xn,ln,hT1,jG⟩:=hF;clear hk hl;replace HT:=Z_ (Out.aG HT.out hT1.out);replace HB:=Z_ jG;replace aA:=Z_ HB.out.at;clear hT1 jG;obtain⟨ra,rn,rc,hrow⟩:=HB.out.slice3
     first|subst hrow|clear hrow
     have c0:=HB.out.nd.cell 0;have c1:=HB.out.nd.cell 1;have c2:=HB.out.nd.cell 2;have c3:=HB.out.nd.cell 3;have r0:=HB.out.res.cell;have rf:=HB.out.res.frozen;have rl:=HB.out.res.lt;unfold bQ at r0;simp at c0 c1 c2 c3
     go_wp2_with fail
     refine bD rfl rfl rfl ((((HB.out.res.set 0 _).set 1 _).set 2 _).set 3 _) Tryz.underlying24 rfl (by kernel_rfl) ?_
     exact HB.out.ret (by have:=lM.out;omega) (HT.out.symm) _ _ _ _
   | true=>
    replace hP:bu W u7 S E DJ.tail:=by simpa using hP
    have HT0:=HT.out;clear HT;simp only [↓reduceIte] at HT0;have HT:=Z_ HT0;clear HT0;replace HB:=Z_ (HB.out.call hC hP (by have:=gI.out rfl;omega));replace aA:=Z_ HB.out.at;clear hC hP HH gI;go_upto_region 10 with (fail)
    refine ah [3,4,5,6,8] (fun i v _=>v=([.pointer (some ⟨N,2,none⟩),.int .i64 (dX+bc),.pointer (some ⟨S,0,none⟩),undef,undef,undef,undef,.pointer (some ⟨N,2,none⟩),undef]:List Value).getD i undef) (zD W w S E A N DJ.tail 4 s (dX+bc) row acc [fun b=>4*b,fun b=>4+4*b,fun b=>dX+bc+(4+4*b)]) (fun _ _=>True) (frame:=?La) (fun x=>?yT) mixed (by kernel_rfl) (by kernel_rfl) (fun _ _ _ _ h _=>h) ?Lc ?Ld ?fine
    case yT=>
     simp only [chain.aK,chain.fill,chain.bf,chain.aW,jJ,jK,jL,jM,jO,jP,jQ,jR,jS];exact rfl
    case Lc=>exact HB.out.extend (aB.refl _ _).drew
    case Ld=>
     iterate 9 (refine ai.cons (fun x vs u hF hm hb hd K' hK'=>?_) ?_;rotate_left)
     exact ai.nil
     ·have HF:=Z_ hF;clear hd hm hb hF;go_simp;exact hK'.out _ _ _ rfl trivial ⟨rfl,HF.out⟩
     ·have y0:x 49=.pointer (some ⟨N,2,none⟩):=(D_ hd 0 :);have hc:=hF.cell (by have:=hb 3 _ (by decide) rfl (by kernel_rfl);simp only [List.length_cons,List.length_nil];omega);have HF:=Z_ hF;clear hd hm hb hF;go_simp;exact hK'.out _ _ _ (by simp only [y0];rfl) trivial ⟨rfl,HF.out⟩
     ·have HF:=Z_ hF;clear hd hm hb hF;go_simp;exact hK'.out _ _ _ rfl trivial ⟨rfl,HF.out⟩
     ·have y0:x 51=.pointer (some ⟨S,0,none⟩):=(D_ hd 2 :);obtain rfl:=kF hm;have HF:=Z_ (show iT _ _ _ _ _ _ _ _ _ _ _ _ _ _ from hF);clear hd hm hb hF;have jv:=Z_ (dD HF.out.pr);go_simp;refine jv.out.mono ?_
      rintro e u2 hr;obtain⟨hC,⟨lb,hp,rfl⟩|⟨sn,lx,v,hp,rfl,⟨rfl,hb0,hb1⟩,hP⟩⟩:=hr.cases (iZ _)
      ·have HE:=Z_ (Out.aF HT.out hp)
       have HC:=Z_ (HF.out.aO.then hC);clear hr hp hC hK' jv;go_wp2_with fail
       exact⟨rfl,dZ.fails HC.out HE.out⟩
      ·exact hK'.out _ _ _ (by simp only [y0];rfl) trivial (x_ HF.out hC hp hb0 hb1 hP)
     ·obtain⟨vb,rfl⟩:∃ vb,vs=[vb]:=by match vs,hm 1 (by kernel_rfl) with|[vb],_=>exact⟨_,rfl⟩
      have hcl:∃ b,vb=.int .i64 b∧0≤b∧b≤1:=by obtain⟨b,l',_,e,h0,h1,hs,_⟩:=hF;exact⟨b,e,h0,h1⟩
      obtain⟨b,rfl,hb0,hb1⟩:=hcl;have y0:x 52=.int .i64 (b):=((D_ hd 3) 52 (by kernel_rfl) :);obtain⟨hw8,QM⟩:=nT (n:=4*b) (by have:=BW.out;have:=SA.out;omega) (by have:=BW.out;have:=SA.out;omega);have HF:=Z_ hF;clear hd hm hb hF;go_simp;exact hK'.out _ _ _ (by simp only [y0];rfl) trivial (by first|exact rS (r:=[]) HF.out (by simp) rfl)
     ·obtain⟨vb,v0,rfl⟩:∃ vb v0,vs=[vb,v0]:=by match vs,hm 2 (by kernel_rfl) with|[vb,v0],_=>exact⟨_,_,rfl⟩
      have hcl:∃ b,vb=.int .i64 b∧0≤b∧b≤1∧v0=.int .i64 (4*b):=by obtain⟨b,l',_,e,h0,h1,hs,_⟩:=hF;exact⟨b,e,h0,h1,by have:=hs 0 (by simp) (by simp);simpa using this⟩
      obtain⟨b,rfl,hb0,hb1,rfl⟩:=hcl;have y0:x 53=.int .i64 (4*b):=((D_ hd 4) 53 (by kernel_rfl) :);obtain⟨hw8,QM⟩:=nT (n:=4+4*b) (by have:=BW.out;have:=SA.out;omega) (by have:=BW.out;have:=SA.out;omega);have HF:=Z_ hF;clear hd hm hb hF;go_simp;exact hK'.out _ _ _ (by simp only [y0];rfl) trivial (by first|exact rS (r:=[.int .i64 (4*b)]) HF.out (by simp) rfl)
     ·obtain⟨vb,v0,v1,rfl⟩:∃ vb v0 v1,vs=[vb,v0,v1]:=by match vs,hm 3 (by kernel_rfl) with|[vb,v0,v1],_=>exact⟨_,_,_,rfl⟩
      have hcl:∃ b,vb=.int .i64 b∧0≤b∧b≤1∧v0=.int .i64 (4*b)∧v1=.int .i64 (4+4*b):=by obtain⟨b,l',_,e,h0,h1,hs,_⟩:=hF;exact⟨b,e,h0,h1,by have:=hs 0 (by simp) (by simp);simpa using this,by have:=hs 1 (by simp) (by simp);simpa using this⟩
      obtain⟨b,rfl,hb0,hb1,rfl,rfl⟩:=hcl;have y0:x 54=.int .i64 (4+4*b):=((D_ hd 5) 54 (by kernel_rfl) :);have y1:x 50=.int .i64 (dX+bc):=(D_ hd 1 :);obtain⟨hw8,QM⟩:=nT (n:=dX+bc+(4+4*b)) (by have:=BW.out;have:=SA.out;omega) (by have:=BW.out;have:=SA.out;omega);have HF:=Z_ hF;clear hd hm hb hF;go_simp;exact hK'.out _ _ _ (by simp only [y0,y1];rfl) trivial (by first|exact rS (r:=[.int .i64 (4*b),.int .i64 (4+4*b)]) HF.out (by simp) rfl)
     ·have HF:=Z_ hF;clear hd hm hb hF;go_simp;exact hK'.out _ _ _ rfl trivial ⟨rfl,HF.out⟩
     ·obtain⟨vb,v0,v1,v2,rfl⟩:∃ vb v0 v1 v2,vs=[vb,v0,v1,v2]:=by match vs,hm 4 (by kernel_rfl) with|[vb,v0,v1,v2],_=>exact⟨_,_,_,_,rfl⟩
      have hcl:∃ b,vb=.int .i64 b∧0≤b∧b≤1∧v0=.int .i64 (4*b)∧v1=.int .i64 (4+4*b)∧v2=.int .i64 (dX+bc+(4+4*b)):=by obtain⟨b,l',_,e,h0,h1,hs,_⟩:=hF;exact⟨b,e,h0,h1,by have:=hs 0 (by simp) (by simp);simpa using this,by have:=hs 1 (by simp) (by simp);simpa using this,by have:=hs 2 (by simp) (by simp);simpa using this⟩
      obtain⟨b,rfl,hb0,hb1,rfl,rfl,rfl⟩:=hcl;have y0:x 56=.pointer (some ⟨N,2,none⟩):=(D_ hd 7 :);have y1:x 55=.int .i64 (dX+bc+(4+4*b)):=((D_ hd 6) 55 (by kernel_rfl) :);have aP:∃ l',iT W w u S E A N l' 4 s (dX+bc) row row acc:=by obtain⟨b',l',_,_,_,_,_,h⟩:=hF;exact⟨l',h⟩
      obtain⟨l',aP⟩:=aP;have hc:=aP.nd.cell 2;have hf:=aP.nd.frozen 2;have hl:=aP.lt;simp at hc
      clear aP;have HF:=Z_ hF;clear hd hm hb hF;go_simp;exact hK'.out _ _ undef (by simp only [y0,y1];rfl) trivial (yc (r:=[.int .i64 (4*b),.int .i64 (4+4*b),.int .i64 (dX+bc+(4+4*b))]) (z:=undef) HF.out (by simp) rfl)
    case fine=>
     intro x vs w9 hl hF hk;obtain⟨vb,v0,v1,v2,vz,rfl⟩:∃ vb v0 v1 v2 vz,vs=[vb,v0,v1,v2,vz]:=by match vs,hl with|[vb,v0,v1,v2,vz],_=>exact⟨_,_,_,_,_,rfl⟩
     obtain⟨be,X9,hT1,-,hb0,hb1,-,jG⟩:=hF;replace jG:iT W w w9 S E A N X9 4 s (dX+bc+(4+4*be)) row row acc:=jG;clear hk hl;replace HT:=Z_ (Out.aG HT.out hT1.out);replace HB:=Z_ jG;replace aA:=Z_ HB.out.at;clear hT1 jG hb0 hb1;go_upto_region 11 with (fail)
     refine ah [3,4,5,7] (fun i v _=>v=([.pointer (some ⟨N,3,none⟩),row,.pointer (some ⟨S,0,none⟩),undef,undef,undef,.pointer (some ⟨N,3,none⟩),undef]:List Value).getD i undef) (fK W w S E A N X9 4 s (dX+bc+(4+4*be)) row acc (bJ mm .block X9)) (fun _ _=>True) (frame:=?SX) (fun x=>?Hh) mixed (by kernel_rfl) (by kernel_rfl) (fun _ _ _ _ h _=>h) ?SY ?SZ ?Hj
     case Hh=>
      simp only [chain.aK,chain.fill,chain.bf,chain.aW,jJ,jK,jL,jM,jO,jP,jQ,jR,jS];exact rfl
     case SY=>exact HB.out.extend (aB.refl _ _).drew
     case SZ=>
      iterate 8 (refine ai.cons (fun x vs u hF hm hb hd K' hK'=>?_) ?_;rotate_left)
      exact ai.nil
      ·have HF:=Z_ hF;clear hd hm hb hF;go_simp;exact hK'.out _ _ _ rfl trivial ⟨rfl,HF.out⟩
      ·have y0:x 57=.pointer (some ⟨N,3,none⟩):=(D_ hd 0 :);have hc:=hF.cell (by have:=hb 2 _ (by decide) rfl (by kernel_rfl);omega);have HF:=Z_ hF;clear hd hm hb hF;go_simp;exact hK'.out _ _ _ (by simp only [y0];rfl) trivial ⟨rfl,HF.out⟩
      ·have HF:=Z_ hF;clear hd hm hb hF;go_simp;exact hK'.out _ _ _ rfl trivial ⟨rfl,HF.out⟩
      ·have y0:x 59=.pointer (some ⟨S,0,none⟩):=(D_ hd 2 :);obtain rfl:=kF hm;have HF:=Z_ (show iT _ _ _ _ _ _ _ _ _ _ _ _ _ _ from hF);clear hd hm hb hF;have jv:=Z_ (ih mm hmm .block _ _ HF.out.pr HM.out rfl trivial (Out.bg HT.out ig.out));go_simp;refine jv.out.mono ?_
       rintro e u2 hr;obtain⟨hC,⟨lb,hp,rfl⟩|⟨xn,ln,v,hp,rfl,hv,hP⟩⟩:=hr.cases (Out.bg HT.out ig.out)
       ·have HE:=Z_ (Out.aF HT.out hp)
        have HC:=Z_ (HF.out.aO.then hC);clear hr hp hC hK' jv;go_wp2_with fail
        exact⟨rfl,dZ.fails HC.out HE.out⟩
       ·exact hK'.out _ _ _ (by simp only [y0];rfl) trivial (f_ HF.out hC hp hv hP (bC.dJ _ _ _ _ _ hp))
      ·obtain⟨v0,rfl⟩:=lK hm
       have y0:x 60=v0:=((D_ hd 3) 60 (by kernel_rfl) :);have hcl:∃ a b c d,v0=.agg #[a,b,c,d]:=by obtain⟨xn,ln,_,_,_,hx⟩:=hF;obtain⟨a,b,c,d,h,_⟩:=bz hx;exact⟨a,b,c,d,h⟩
       obtain⟨a0,b0,c0,d0,rfl⟩:=hcl;have HF:=Z_ hF;clear hd hm hb hF;go_simp;exact hK'.out _ _ _ (by simp only [y0];rfl) trivial (dO HF.out rfl)
      ·obtain⟨v0,v1,rfl⟩:=qX hm
       have y0:x 58=row:=(D_ hd 1 :);have y1:x 61=v1:=((D_ hd 4) 61 (by kernel_rfl) :);have hF2:=hF;obtain⟨xn,ln,hT1,aP,hfew,hx,gg,rfl,hgb,hgr⟩:=hF2;obtain⟨us,hu1,ho,hu3⟩:=aP.grow.ex;have hlt:=aP.lt;obtain⟨jc,jd,hz0,hz1,hz2⟩:=aX eP;refine wp_append_lies _ _ _ 22 rfl (N+1) 24 jc (.agg #[.int .i64 0,.string ⟨#[]⟩,.int .i64 0,.slice none 0 0]) 4 56 Tryz.underlying22 jd hz0 hz1 hz2 rfl (by decide) row acc.length (us.flatMap fun u=>u.cells.toList) y0 ho ⟨gg,0,none⟩ 1 1 v0.cells.toList y1 (by rw [Array.length_toList,fA hx]) ?_ (by obtain⟨a,b,c,d,e,e2,p1,p2,p3,p4⟩:=bz hx;rw [e2];intro q hq;simp at hq;rcases hq with rfl|rfl|rfl|rfl<;>assumption) (by decide) (by unfold maxLen;omega) (by omega) (by omega) u.heap.size rfl ?_
       ·intro j q hj;have e:(⟨gg,0,none⟩:Addr).add j=⟨gg,j,none⟩:=(by unfold Addr.add;split<;>simp_all);rw [e,hgb.cell];simpa using hj
       ·intro g9 c9 w9 iQ iJ jU qF
        exact hK'.out _ _ _ rfl trivial (push_append hF hu1 hu3 iQ iJ jU)
      ·have HF:=Z_ hF;clear hd hm hb hF;go_simp;exact hK'.out _ _ _ rfl trivial ⟨rfl,HF.out⟩
      ·obtain⟨v0,v1,v2,rfl⟩:=xy hm
       have y0:x 63=.pointer (some ⟨N,3,none⟩):=(D_ hd 6 :);have y1:x 62=v2:=((D_ hd 5) 62 (by kernel_rfl) :);have hF2:=hF;obtain⟨xn,ln,hT1,aP,gg,cc,rfl⟩:=hF2;have hc:=aP.nd.cell 3;have hf:=aP.nd.frozen 3;have hl:=aP.lt;simp at hc
       have HF:=Z_ hF;clear hd hm hb hF aP hT1;go_simp;exact hK'.out _ _ undef (by simp only [y0,y1];rfl) trivial (dP HF.out)
     case Hj=>
      intro x vs w9 hl hF hk;obtain⟨v0,v1,v2,v3,rfl⟩:=xA hl
      obtain⟨xn,ln,hT1,jG⟩:=hF;clear hk hl;replace HT:=Z_ (Out.aG HT.out hT1.out);replace HB:=Z_ jG;replace aA:=Z_ HB.out.at;clear hT1 jG;obtain⟨ra,rn,rc,hrow⟩:=HB.out.slice3
      first|subst hrow|clear hrow
      have c0:=HB.out.nd.cell 0;have c1:=HB.out.nd.cell 1;have c2:=HB.out.nd.cell 2;have c3:=HB.out.nd.cell 3;have r0:=HB.out.res.cell;have rf:=HB.out.res.frozen;have rl:=HB.out.res.lt;unfold bQ at r0;simp at c0 c1 c2 c3
      go_wp2_with fail
      refine bD rfl rfl rfl ((((HB.out.res.set 0 _).set 1 _).set 2 _).set 3 _) Tryz.underlying24 rfl (by kernel_rfl) ?_
      exact HB.out.ret (by have:=lM.out;omega) (HT.out.symm) _ _ _ _
end bn
end Go.Proofs.YtpcihajmcejliacGreatDoor
