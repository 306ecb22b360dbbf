/- The walk of the program's parser: declarations. -/
import Derived.StillTactics
import Derived.Test.YtpcihajmcejliacGreatDoorSyn6o
import Derived.Test.YtpcihajmcejliacGreatDoorSynDo
namespace Go.Proofs.YtpcihajmcejliacGreatDoor
open Go.RowKit
namespace bu
theorem oH {n:Int} (h0:0≤n) (h1:n≤100):IntKind.i64.wrap n=n∧wrap64 n=n:=⟨wrap_small n h0 (by omega),by unfold wrap64;omega⟩
theorem xP (l:List Tk):fD l≠.out:=by
 cases l with
 | nil=>intro h;cases h
 | cons t r=>
  simp only [fD,ne_eq];split<;>simp
set_option maxRecDepth 100000 in
set_option maxHeartbeats 4000000 in
theorem LZ {n:Nat} (ih:∀ m,m≤n→Good m) {W w:World} {S E:Nat} {l:List Tk} (h:bz W w S E l) (hm:cE W) (hne:bJ (n+1) (.decl) l≠.out) :
  Calls Tryz.prog 98 #[.pointer (some ⟨S,0,none⟩)] w (eC (VN w.heap.size) W w S E (bJ (n+1) (.decl) l)):=by
 obtain⟨T,hT⟩:∃ T,bJ (n+1) (.decl) l=T:=⟨_,rfl⟩;rw [hT] at hne ⊢;simp only [bJ] at hT;have HT:=Z_ hT;have h_:=Z_ hne;have HM:=Z_ hm;have aA:Hid (At W w (w.alloc (.cells #[.int .i64 0,.string ⟨#[]⟩,.int .i64 0,.slice none 0 0] 24)) S E w.heap.size l):=Z_ (At.start h);obtain⟨A,hA⟩:∃ A,w.heap.size=A:=⟨_,rfl⟩;rw [hA] at aA;have Pj:S<A:=by have:=h.lt;omega
 clear h hm hne hT;go_enter Tryz.func98,Tryz.ntmps98
 go_upto_region 1 with (fail)
 generalize w.alloc (.cells #[.int .i64 0,.string ⟨#[]⟩,.int .i64 0,.slice none 0 0] 24)=u0 at *;go_upto_region 2 with (fail)
 have HH:=Z_ (dh aA.out.pr sN);have gu:=Z_ (fun (h:fK l [sN]=true)=>bF.aV h);generalize fK l [sN]=R at *;go_wp2_with fail
 refine HH.out.mono ?_
 rintro e u1 ⟨rfl,hC,hP⟩;cases R with
 | false=>
  replace hP:bz W u1 S E l:=by simpa using hP
  have HT0:=HT.out;clear HT;simp only [Bool.false_eq_true,↓reduceIte] at HT0;have HT:=Z_ HT0;clear HT0;replace aA:=Z_ (aA.out.call hC hP);clear hC hP HH gu;have HH:=Z_ (dh aA.out.pr xm);have gu:=Z_ (fun (h:fK l [xm]=true)=>bF.aV h);generalize fK l [xm]=R at *;go_wp2_with fail
  refine HH.out.mono ?_
  rintro e u2 ⟨rfl,hC,hP⟩;cases R with
  | false=>
   replace hP:bz W u2 S E l:=by simpa using hP
   have HT0:=HT.out;clear HT;simp only [Bool.false_eq_true,↓reduceIte] at HT0;have HT:=Z_ HT0;clear HT0;replace aA:=Z_ (aA.out.call hC hP);clear hC hP HH gu;have HN:=Z_ (dF aA.out.pr);go_wp2_with fail
   refine HN.out.mono ?_
   rintro e u3 hr;obtain⟨hC,⟨lb,hp,rfl⟩|⟨b3,l3,v,hp,rfl,⟨rfl,hb0,hb1⟩,hP⟩⟩:=hr.cases (je _)
   ·have HF:=Z_ (Out.aF HT.out hp)
    have HC:=Z_ (aA.out.aK.then hC);clear hr hp hC;go_wp2_with fail
    exact⟨rfl,eC.fails HC.out HF.out⟩
   replace HT:=Z_ (Out.aG HT.out hp);replace aA:=Z_ (aA.out.call hC hP);have DI:=Z_ (And.intro hb0 hb1);clear hr hp hC hP HN;clear hb0 hb1;have HT0:=HT.out;clear HT;simp only [Int.add_zero] at HT0;have HT:=Z_ HT0;clear HT0;have hw7:=oH (n:=b3) (by have:=DI.out;omega) (by have:=DI.out;omega);obtain⟨hw8,Ud⟩:=hw7;have HN:=Z_ (name_any aA.out.pr HM.out);go_wp2_with fail
   refine HN.out.mono ?_
   rintro e u4 hr;obtain⟨hC,⟨lb,hp,rfl⟩|⟨s4,l4,v,hp,rfl,⟨rfl,hs⟩,hP⟩⟩:=hr.cases (iI _)
   ·have HF:=Z_ (Out.aF HT.out hp)
    have HC:=Z_ (aA.out.aK.then hC);clear hr hp hC;go_wp2_with fail
    exact⟨rfl,eC.fails HC.out HF.out⟩
   replace HT:=Z_ (Out.aG HT.out hp);replace aA:=Z_ (aA.out.call hC hP);have mM:=Z_ hs;clear hr hp hC hP HN;clear hs;go_wp2_with fail
   refine(dH _ _ _ _ _ _ _).mono ?_
   rintro e u5 ⟨rfl,hE⟩;replace aA:=Z_ (aA.out.extend hE);clear hw8 Ud;have HB:=Z_ ((aA.out.alloc (.cells #[.int .i64 (3),.string s4,.int .i64 (b3),.slice none 0 0] 24)).U7 (aC.made u5 _ _) aA.out.lt);obtain⟨N,hN⟩:∃ N,u5.heap.size=N:=⟨_,rfl⟩;rw [hN] at HB;clear hE aA;go_upto_region 8 with (fail)
   generalize u5.alloc (.cells #[.int .i64 (3),.string s4,.int .i64 (b3),.slice none 0 0] 24)=v0 at *;have aA:=Z_ HB.out.at;have HH:=Z_ (dh aA.out.pr xk);have gu:=Z_ (fun (h:fK l4 [xk]=true)=>bF.aV h);generalize fK l4 [xk]=R at *;go_wp2_with fail
   refine HH.out.mono ?_
   rintro e u6 ⟨rfl,hC,hP⟩;cases R with
   | false=>
    replace hP:bz W u6 S E l4:=by simpa using hP
    have HT0:=HT.out;clear HT;simp only [Bool.false_eq_true,↓reduceIte] at HT0;have HT:=Z_ HT0;clear HT0;replace HB:=Z_ (HB.out.call hC hP (Nat.le_refl _));replace aA:=Z_ HB.out.at;clear hC hP HH gu;have HT0:=HT.out;clear HT;unfold kN at HT0;have HT:=Z_ HT0;clear HT0;have HN:=Z_ (b_ (aA.out.pr.alloc (.cells #[.string cZ] 9)) u6.heap.size 1 cZ ((aC.made u6 #[.string cZ] 9).cell 0));have eP:=(aB.refl (fun _=>False) u6).alloc (.cells #[.string cZ] 9);replace HB:=Z_ (HB.out.extend eP);replace aA:=Z_ HB.out.at;clear eP;go_wp2_with fail
    refine HN.out.mono ?_
    rintro e u7 hr;obtain⟨hC,⟨lb,hp,rfl⟩|⟨_,l7,_,hp,rfl,rfl,hP⟩⟩:=hr.cases (di _ _)
    ·have HF:=Z_ (Out.aF HT.out hp)
     have HC:=Z_ (aA.out.aK.then hC);clear hr hp hC;go_wp2_with fail
     exact⟨rfl,eC.fails HC.out HF.out⟩
    replace HT:=Z_ (Out.aG HT.out hp);replace HB:=Z_ (HB.out.call hC hP (by have:=bF.aZ hp;omega));replace aA:=Z_ HB.out.at;clear hr hp hC hP HN;obtain⟨ra,rn,rc,hrow⟩:=HB.out.slice3
    first|subst hrow|clear hrow
    have c0:=HB.out.nd.cell 0;have c1:=HB.out.nd.cell 1;have c2:=HB.out.nd.cell 2;have c3:=HB.out.nd.cell 3;have r0:=HB.out.res.cell;have rf:=HB.out.res.frozen;have rl:=HB.out.res.lt;unfold bK at r0;simp at c0 c1 c2 c3
    go_wp2_with fail
    refine bG rfl rfl rfl ((((HB.out.res.set 0 _).set 1 _).set 2 _).set 3 _) Tryz.underlying24 rfl (by kernel_rfl) ?_
    exact HB.out.ret (by have:=mM.out;omega) (HT.out.symm) _ _ _ _
   | true=>
    replace hP:bz W u6 S E l4.tail:=by simpa using hP
    have HT0:=HT.out;clear HT;simp only [↓reduceIte] at HT0;have HT:=Z_ HT0;clear HT0;replace HB:=Z_ (HB.out.call hC hP (by have:=gu.out rfl;omega));replace aA:=Z_ HB.out.at;clear hC hP HH gu;go_upto_region 9 with (fail)
    refine aj [3,4,5,7] (fun i v _=>v=([.pointer (some ⟨N,3,none⟩),(.slice none 0 0),.pointer (some ⟨S,0,none⟩),undef,undef,undef,.pointer (some ⟨N,3,none⟩),undef]:List Value).getD i undef) (fJ W w S E A N l4.tail 3 s4 (b3) (.slice none 0 0) [] (fD l4.tail)) (fun _ _=>True) (frame:=?Es) (fun x=>?rD) mixed (by kernel_rfl) (by kernel_rfl) (fun _ _ _ _ h _=>h) ?Et ?Eu ?rE
    case rD=>
     simp only [chain.aN,chain.fill,chain.bf,chain.aY,jW,jX,jY,jZ,kz,kC,kD,kE,kF];exact rfl
    case Et=>exact HB.out.extend (aB.refl _ _).drew
    case Eu=>
     iterate 8 (refine ak.cons (fun x vs u hF hm hb hd K' hK'=>?_) ?_;rotate_left)
     exact ak.nil
     ·have HF:=Z_ hF;clear hd hm hb hF;go_simp;exact hK'.out _ _ _ rfl trivial ⟨rfl,HF.out⟩
     ·have y0:x 23=.pointer (some ⟨N,3,none⟩):=(D_ hd 0 :);have hc:=hF.cell (by have:=hb 2 _ (by decide) rfl (by kernel_rfl);omega);have HF:=Z_ hF;clear hd hm hb hF;go_simp;exact hK'.out _ _ _ (by simp only [y0];rfl) trivial ⟨rfl,HF.out⟩
     ·have HF:=Z_ hF;clear hd hm hb hF;go_simp;exact hK'.out _ _ _ rfl trivial ⟨rfl,HF.out⟩
     ·have y0:x 25=.pointer (some ⟨S,0,none⟩):=(D_ hd 2 :);obtain rfl:=kS hm;have HF:=Z_ (show iU _ _ _ _ _ _ _ _ _ _ _ _ _ _ from hF);clear hd hm hb hF;have jM:=Z_ (lV HF.out.pr);go_simp;refine jM.out.mono ?_
      rintro e u2 hr;obtain⟨hC,⟨lb,hp,rfl⟩|⟨xn,ln,v,hp,rfl,hv,hP⟩⟩:=hr.cases (xP _)
      ·have HE:=Z_ (Out.aF HT.out hp)
       have HC:=Z_ (HF.out.aK.then hC);clear hr hp hC hK' jM;go_wp2_with fail
       exact⟨rfl,eC.fails HC.out HE.out⟩
      ·exact hK'.out _ _ _ (by simp only [y0];rfl) trivial (fQ HF.out hC hp hv hP (bF.qE hp))
     ·obtain⟨v0,rfl⟩:=mD hm
      have y0:x 26=v0:=((D_ hd 3) 26 (by kernel_rfl) :);have hcl:∃ a b c d,v0=.agg #[a,b,c,d]:=by obtain⟨xn,ln,_,_,_,hx⟩:=hF;obtain⟨a,b,c,d,h,_⟩:=bD hx;exact⟨a,b,c,d,h⟩
      obtain⟨a0,b0,c0,d0,rfl⟩:=hcl;have HF:=Z_ hF;clear hd hm hb hF;go_simp;exact hK'.out _ _ _ (by simp only [y0];rfl) trivial (dU HF.out rfl)
     ·obtain⟨v0,v1,rfl⟩:=tN hm
      have y0:x 24=(.slice none 0 0):=(D_ hd 1 :);have y1:x 27=v1:=((D_ hd 4) 27 (by kernel_rfl) :);have hF2:=hF;obtain⟨xn,ln,hT1,aO,hfew,hx,gg,rfl,hgb,hgr⟩:=hF2;obtain⟨us,hu1,ho,hu3⟩:=aO.grow.ex;have hlt:=aO.lt;obtain⟨iW,iY,hz0,hz1,hz2⟩:=aW eU;refine wp_append_lies _ _ _ 22 rfl (N+1) 24 iW (.agg #[.int .i64 0,.string ⟨#[]⟩,.int .i64 0,.slice none 0 0]) 4 56 Tryz.underlying22 iY hz0 hz1 hz2 rfl (by decide) (.slice none 0 0) [].length (us.flatMap fun u=>u.cells.toList) y0 ho ⟨gg,0,none⟩ 1 1 v0.cells.toList y1 (by rw [Array.length_toList,fB hx]) ?_ (by obtain⟨a,b,c,d,e,e2,p1,p2,p3,p4⟩:=bD hx;rw [e2];intro q hq;simp at hq;rcases hq with rfl|rfl|rfl|rfl<;>assumption) (by decide) (by unfold maxLen;omega) (by omega) (by omega) u.heap.size rfl ?_
      ·intro j q hj;have e:(⟨gg,0,none⟩:Addr).add j=⟨gg,j,none⟩:=(by unfold Addr.add;split<;>simp_all);rw [e,hgb.cell];simpa using hj
      ·intro g9 c9 w9 ju iZ kU uI
       exact hK'.out _ _ _ rfl trivial (push_append hF hu1 hu3 ju iZ kU)
     ·have HF:=Z_ hF;clear hd hm hb hF;go_simp;exact hK'.out _ _ _ rfl trivial ⟨rfl,HF.out⟩
     ·obtain⟨v0,v1,v2,rfl⟩:=zF hm
      have y0:x 29=.pointer (some ⟨N,3,none⟩):=(D_ hd 6 :);have y1:x 28=v2:=((D_ hd 5) 28 (by kernel_rfl) :);have hF2:=hF;obtain⟨xn,ln,hT1,aO,gg,cc,rfl⟩:=hF2;have hc:=aO.nd.cell 3;have hf:=aO.nd.frozen 3;have hl:=aO.lt;simp at hc
      have HF:=Z_ hF;clear hd hm hb hF aO hT1;go_simp;exact hK'.out _ _ undef (by simp only [y0,y1];rfl) trivial (dV HF.out)
    case rE=>
     intro x vs w9 hl hF hk;obtain⟨v0,v1,v2,v3,rfl⟩:=zG hl
     obtain⟨xn,ln,hT1,jV⟩:=hF;clear hk hl;replace HT:=Z_ (Out.aG HT.out hT1.out);replace HB:=Z_ jV;replace aA:=Z_ HB.out.at;clear hT1 jV;have HN:=Z_ (b_ (aA.out.pr.alloc (.cells #[.string sJ] 9)) w9.heap.size 1 sJ ((aC.made w9 #[.string sJ] 9).cell 0));have eP:=(aB.refl (fun _=>False) w9).alloc (.cells #[.string sJ] 9);replace HB:=Z_ (HB.out.extend eP);replace aA:=Z_ HB.out.at;clear eP;go_wp2_with fail
     refine HN.out.mono ?_
     rintro e u9 hr;obtain⟨hC,⟨lb,hp,rfl⟩|⟨_,l9,_,hp,rfl,rfl,hP⟩⟩:=hr.cases (di _ _)
     ·have HF:=Z_ (Out.aF HT.out hp)
      have HC:=Z_ (aA.out.aK.then hC);clear hr hp hC;go_wp2_with fail
      exact⟨rfl,eC.fails HC.out HF.out⟩
     replace HT:=Z_ (Out.aG HT.out hp);replace HB:=Z_ (HB.out.call hC hP (by have:=bF.aZ hp;omega));replace aA:=Z_ HB.out.at;clear hr hp hC hP HN;have HT0:=HT.out;clear HT;unfold kN at HT0;have HT:=Z_ HT0;clear HT0;have HN:=Z_ (b_ (aA.out.pr.alloc (.cells #[.string cZ] 9)) u9.heap.size 1 cZ ((aC.made u9 #[.string cZ] 9).cell 0));have eP:=(aB.refl (fun _=>False) u9).alloc (.cells #[.string cZ] 9);replace HB:=Z_ (HB.out.extend eP);replace aA:=Z_ HB.out.at;clear eP;go_wp2_with fail
     refine HN.out.mono ?_
     rintro e u10 hr;obtain⟨hC,⟨lb,hp,rfl⟩|⟨_,l10,_,hp,rfl,rfl,hP⟩⟩:=hr.cases (di _ _)
     ·have HF:=Z_ (Out.aF HT.out hp)
      have HC:=Z_ (aA.out.aK.then hC);clear hr hp hC;go_wp2_with fail
      exact⟨rfl,eC.fails HC.out HF.out⟩
     replace HT:=Z_ (Out.aG HT.out hp);replace HB:=Z_ (HB.out.call hC hP (by have:=bF.aZ hp;omega));replace aA:=Z_ HB.out.at;clear hr hp hC hP HN;obtain⟨ra,rn,rc,hrow⟩:=HB.out.slice3
     first|subst hrow|clear hrow
     have c0:=HB.out.nd.cell 0;have c1:=HB.out.nd.cell 1;have c2:=HB.out.nd.cell 2;have c3:=HB.out.nd.cell 3;have r0:=HB.out.res.cell;have rf:=HB.out.res.frozen;have rl:=HB.out.res.lt;unfold bK at r0;simp at c0 c1 c2 c3
     go_wp2_with fail
     refine bG rfl rfl rfl ((((HB.out.res.set 0 _).set 1 _).set 2 _).set 3 _) Tryz.underlying24 rfl (by kernel_rfl) ?_
     exact HB.out.ret (by have:=mM.out;omega) (HT.out.symm) _ _ _ _
  | true=>
   replace hP:bz W u2 S E l.tail:=by simpa using hP
   have HT0:=HT.out;clear HT;simp only [↓reduceIte] at HT0;have HT:=Z_ HT0;clear HT0;replace aA:=Z_ (aA.out.call hC hP);clear hC hP HH gu;have iE:=aA.out.lt;obtain⟨B,hB⟩:∃ B,u2.heap.size=B:=⟨_,rfl⟩;rw [hB] at iE;have HN:=Z_ (ih n (Nat.le_refl _) (.proc 0) _ _ aA.out.pr HM.out rfl (by decide:(0:Int)≤0∧(0:Int)≤2) (by rw [HT.out];exact h_.out));go_wp2_with fail
   refine HN.out.mono ?_
   rintro e u10 hr;obtain⟨hC,⟨lb,hp,rfl⟩|⟨x10,l10,v10,hp,rfl,hv,hP⟩⟩:=hr.cases (by rw [HT.out];exact h_.out)
   ·have HF:=Z_ (HT.out.symm.trans hp)
    have HC:=Z_ (aA.out.aK.then hC);clear hr hp hC;go_wp2_with fail
    exact⟨rfl,eC.fails HC.out HF.out⟩
   replace HT:=Z_ (HT.out.symm.trans hp);replace aA:=Z_ (aA.out.call hC hP);obtain⟨Pn,Po,Pq,Pv,Px,Py,rfl⟩:=cH hv;have Dj:=Z_ hv;have Gj:u2.heap.size≤u10.heap.size:=hC.size;clear hr hp hC hP hv HN;rw [hB] at Dj;have r0:=aA.out.res.cell;have rf:=aA.out.res.frozen;have rl:=aA.out.res.lt;unfold bK at r0;go_wp2_with fail
   refine bG rfl rfl rfl ((((aA.out.res.set 0 _).set 1 _).set 2 _).set 3 _) Tryz.underlying24 rfl (by kernel_rfl) ?_
   exact eM aA.out (below B) (Dj.out) (cg (by omega)) (fun i hi=>cg (by omega)) (HT.out)
 | true=>
  replace hP:bz W u1 S E l.tail:=by simpa using hP
  have HT0:=HT.out;clear HT;simp only [↓reduceIte] at HT0;have HT:=Z_ HT0;clear HT0;replace aA:=Z_ (aA.out.call hC hP);clear hC hP HH gu;have HH:=Z_ (dh aA.out.pr xm);have gu:=Z_ (fun (h:fK l.tail [xm]=true)=>bF.aV h);generalize fK l.tail [xm]=R at *;go_wp2_with fail
  refine HH.out.mono ?_
  rintro e u12 ⟨rfl,hC,hP⟩;cases R with
  | false=>
   replace hP:bz W u12 S E l.tail:=by simpa using hP
   have HT0:=HT.out;clear HT;simp only [Bool.false_eq_true,↓reduceIte] at HT0;have HT:=Z_ HT0;clear HT0;replace aA:=Z_ (aA.out.call hC hP);clear hC hP HH gu;have HN:=Z_ (dF aA.out.pr);go_wp2_with fail
   refine HN.out.mono ?_
   rintro e u13 hr;obtain⟨hC,⟨lb,hp,rfl⟩|⟨b13,l13,v,hp,rfl,⟨rfl,hb0,hb1⟩,hP⟩⟩:=hr.cases (je _)
   ·have HF:=Z_ (Out.aF HT.out hp)
    have HC:=Z_ (aA.out.aK.then hC);clear hr hp hC;go_wp2_with fail
    exact⟨rfl,eC.fails HC.out HF.out⟩
   replace HT:=Z_ (Out.aG HT.out hp);replace aA:=Z_ (aA.out.call hC hP);have DI:=Z_ (And.intro hb0 hb1);clear hr hp hC hP HN;clear hb0 hb1;have hw7:=oH (n:=b13+2) (by have:=DI.out;omega) (by have:=DI.out;omega);obtain⟨hw8,Ud⟩:=hw7;have HN:=Z_ (name_any aA.out.pr HM.out);go_wp2_with fail
   refine HN.out.mono ?_
   rintro e u14 hr;obtain⟨hC,⟨lb,hp,rfl⟩|⟨s14,TW,v,hp,rfl,⟨rfl,hs⟩,hP⟩⟩:=hr.cases (iI _)
   ·have HF:=Z_ (Out.aF HT.out hp)
    have HC:=Z_ (aA.out.aK.then hC);clear hr hp hC;go_wp2_with fail
    exact⟨rfl,eC.fails HC.out HF.out⟩
   replace HT:=Z_ (Out.aG HT.out hp);replace aA:=Z_ (aA.out.call hC hP);have mM:=Z_ hs;clear hr hp hC hP HN;clear hs;go_wp2_with fail
   refine(dH _ _ _ _ _ _ _).mono ?_
   rintro e u15 ⟨rfl,hE⟩;replace aA:=Z_ (aA.out.extend hE);clear hw8 Ud;have HB:=Z_ ((aA.out.alloc (.cells #[.int .i64 (3),.string s14,.int .i64 (b13+2),.slice none 0 0] 24)).U7 (aC.made u15 _ _) aA.out.lt);obtain⟨N,hN⟩:∃ N,u15.heap.size=N:=⟨_,rfl⟩;rw [hN] at HB;clear hE aA;go_upto_region 8 with (fail)
   generalize u15.alloc (.cells #[.int .i64 (3),.string s14,.int .i64 (b13+2),.slice none 0 0] 24)=v0 at *;have aA:=Z_ HB.out.at;have HH:=Z_ (dh aA.out.pr xk);have gu:=Z_ (fun (h:fK TW [xk]=true)=>bF.aV h);generalize fK TW [xk]=R at *;go_wp2_with fail
   refine HH.out.mono ?_
   rintro e u16 ⟨rfl,hC,hP⟩;cases R with
   | false=>
    replace hP:bz W u16 S E TW:=by simpa using hP
    have HT0:=HT.out;clear HT;simp only [Bool.false_eq_true,↓reduceIte] at HT0;have HT:=Z_ HT0;clear HT0;replace HB:=Z_ (HB.out.call hC hP (Nat.le_refl _));replace aA:=Z_ HB.out.at;clear hC hP HH gu;have HT0:=HT.out;clear HT;unfold kN at HT0;have HT:=Z_ HT0;clear HT0;have HN:=Z_ (b_ (aA.out.pr.alloc (.cells #[.string cZ] 9)) u16.heap.size 1 cZ ((aC.made u16 #[.string cZ] 9).cell 0));have eP:=(aB.refl (fun _=>False) u16).alloc (.cells #[.string cZ] 9);replace HB:=Z_ (HB.out.extend eP);replace aA:=Z_ HB.out.at;clear eP;go_wp2_with fail
    refine HN.out.mono ?_
    rintro e u17 hr;obtain⟨hC,⟨lb,hp,rfl⟩|⟨_,l17,_,hp,rfl,rfl,hP⟩⟩:=hr.cases (di _ _)
    ·have HF:=Z_ (Out.aF HT.out hp)
     have HC:=Z_ (aA.out.aK.then hC);clear hr hp hC;go_wp2_with fail
     exact⟨rfl,eC.fails HC.out HF.out⟩
    replace HT:=Z_ (Out.aG HT.out hp);replace HB:=Z_ (HB.out.call hC hP (by have:=bF.aZ hp;omega));replace aA:=Z_ HB.out.at;clear hr hp hC hP HN;obtain⟨ra,rn,rc,hrow⟩:=HB.out.slice3
    first|subst hrow|clear hrow
    have c0:=HB.out.nd.cell 0;have c1:=HB.out.nd.cell 1;have c2:=HB.out.nd.cell 2;have c3:=HB.out.nd.cell 3;have r0:=HB.out.res.cell;have rf:=HB.out.res.frozen;have rl:=HB.out.res.lt;unfold bK at r0;simp at c0 c1 c2 c3
    go_wp2_with fail
    refine bG rfl rfl rfl ((((HB.out.res.set 0 _).set 1 _).set 2 _).set 3 _) Tryz.underlying24 rfl (by kernel_rfl) ?_
    exact HB.out.ret (by have:=mM.out;omega) (HT.out.symm) _ _ _ _
   | true=>
    replace hP:bz W u16 S E TW.tail:=by simpa using hP
    have HT0:=HT.out;clear HT;simp only [↓reduceIte] at HT0;have HT:=Z_ HT0;clear HT0;replace HB:=Z_ (HB.out.call hC hP (by have:=gu.out rfl;omega));replace aA:=Z_ HB.out.at;clear hC hP HH gu;go_upto_region 9 with (fail)
    refine aj [3,4,5,7] (fun i v _=>v=([.pointer (some ⟨N,3,none⟩),(.slice none 0 0),.pointer (some ⟨S,0,none⟩),undef,undef,undef,.pointer (some ⟨N,3,none⟩),undef]:List Value).getD i undef) (fJ W w S E A N TW.tail 3 s14 (b13+2) (.slice none 0 0) [] (fD TW.tail)) (fun _ _=>True) (frame:=?ES) (fun x=>?rK) mixed (by kernel_rfl) (by kernel_rfl) (fun _ _ _ _ h _=>h) ?ET ?EU ?rL
    case rK=>
     simp only [chain.aN,chain.fill,chain.bf,chain.aY,jW,jX,jY,jZ,kz,kC,kD,kE,kF];exact rfl
    case ET=>exact HB.out.extend (aB.refl _ _).drew
    case EU=>
     iterate 8 (refine ak.cons (fun x vs u hF hm hb hd K' hK'=>?_) ?_;rotate_left)
     exact ak.nil
     ·have HF:=Z_ hF;clear hd hm hb hF;go_simp;exact hK'.out _ _ _ rfl trivial ⟨rfl,HF.out⟩
     ·have y0:x 23=.pointer (some ⟨N,3,none⟩):=(D_ hd 0 :);have hc:=hF.cell (by have:=hb 2 _ (by decide) rfl (by kernel_rfl);omega);have HF:=Z_ hF;clear hd hm hb hF;go_simp;exact hK'.out _ _ _ (by simp only [y0];rfl) trivial ⟨rfl,HF.out⟩
     ·have HF:=Z_ hF;clear hd hm hb hF;go_simp;exact hK'.out _ _ _ rfl trivial ⟨rfl,HF.out⟩
     ·have y0:x 25=.pointer (some ⟨S,0,none⟩):=(D_ hd 2 :);obtain rfl:=kS hm;have HF:=Z_ (show iU _ _ _ _ _ _ _ _ _ _ _ _ _ _ from hF);clear hd hm hb hF;have jM:=Z_ (lV HF.out.pr);go_simp;refine jM.out.mono ?_
      rintro e u2 hr;obtain⟨hC,⟨lb,hp,rfl⟩|⟨xn,ln,v,hp,rfl,hv,hP⟩⟩:=hr.cases (xP _)
      ·have HE:=Z_ (Out.aF HT.out hp)
       have HC:=Z_ (HF.out.aK.then hC);clear hr hp hC hK' jM;go_wp2_with fail
       exact⟨rfl,eC.fails HC.out HE.out⟩
      ·exact hK'.out _ _ _ (by simp only [y0];rfl) trivial (fQ HF.out hC hp hv hP (bF.qE hp))
     ·obtain⟨v0,rfl⟩:=mD hm
      have y0:x 26=v0:=((D_ hd 3) 26 (by kernel_rfl) :);have hcl:∃ a b c d,v0=.agg #[a,b,c,d]:=by obtain⟨xn,ln,_,_,_,hx⟩:=hF;obtain⟨a,b,c,d,h,_⟩:=bD hx;exact⟨a,b,c,d,h⟩
      obtain⟨a0,b0,c0,d0,rfl⟩:=hcl;have HF:=Z_ hF;clear hd hm hb hF;go_simp;exact hK'.out _ _ _ (by simp only [y0];rfl) trivial (dU HF.out rfl)
     ·obtain⟨v0,v1,rfl⟩:=tN hm
      have y0:x 24=(.slice none 0 0):=(D_ hd 1 :);have y1:x 27=v1:=((D_ hd 4) 27 (by kernel_rfl) :);have hF2:=hF;obtain⟨xn,ln,hT1,aO,hfew,hx,gg,rfl,hgb,hgr⟩:=hF2;obtain⟨us,hu1,ho,hu3⟩:=aO.grow.ex;have hlt:=aO.lt;obtain⟨iW,iY,hz0,hz1,hz2⟩:=aW eU;refine wp_append_lies _ _ _ 22 rfl (N+1) 24 iW (.agg #[.int .i64 0,.string ⟨#[]⟩,.int .i64 0,.slice none 0 0]) 4 56 Tryz.underlying22 iY hz0 hz1 hz2 rfl (by decide) (.slice none 0 0) [].length (us.flatMap fun u=>u.cells.toList) y0 ho ⟨gg,0,none⟩ 1 1 v0.cells.toList y1 (by rw [Array.length_toList,fB hx]) ?_ (by obtain⟨a,b,c,d,e,e2,p1,p2,p3,p4⟩:=bD hx;rw [e2];intro q hq;simp at hq;rcases hq with rfl|rfl|rfl|rfl<;>assumption) (by decide) (by unfold maxLen;omega) (by omega) (by omega) u.heap.size rfl ?_
      ·intro j q hj;have e:(⟨gg,0,none⟩:Addr).add j=⟨gg,j,none⟩:=(by unfold Addr.add;split<;>simp_all);rw [e,hgb.cell];simpa using hj
      ·intro g9 c9 w9 ju iZ kU uI
       exact hK'.out _ _ _ rfl trivial (push_append hF hu1 hu3 ju iZ kU)
     ·have HF:=Z_ hF;clear hd hm hb hF;go_simp;exact hK'.out _ _ _ rfl trivial ⟨rfl,HF.out⟩
     ·obtain⟨v0,v1,v2,rfl⟩:=zF hm
      have y0:x 29=.pointer (some ⟨N,3,none⟩):=(D_ hd 6 :);have y1:x 28=v2:=((D_ hd 5) 28 (by kernel_rfl) :);have hF2:=hF;obtain⟨xn,ln,hT1,aO,gg,cc,rfl⟩:=hF2;have hc:=aO.nd.cell 3;have hf:=aO.nd.frozen 3;have hl:=aO.lt;simp at hc
      have HF:=Z_ hF;clear hd hm hb hF aO hT1;go_simp;exact hK'.out _ _ undef (by simp only [y0,y1];rfl) trivial (dV HF.out)
    case rL=>
     intro x vs w9 hl hF hk;obtain⟨v0,v1,v2,v3,rfl⟩:=zG hl
     obtain⟨xn,ln,hT1,jV⟩:=hF;clear hk hl;replace HT:=Z_ (Out.aG HT.out hT1.out);replace HB:=Z_ jV;replace aA:=Z_ HB.out.at;clear hT1 jV;have HN:=Z_ (b_ (aA.out.pr.alloc (.cells #[.string sJ] 9)) w9.heap.size 1 sJ ((aC.made w9 #[.string sJ] 9).cell 0));have eP:=(aB.refl (fun _=>False) w9).alloc (.cells #[.string sJ] 9);replace HB:=Z_ (HB.out.extend eP);replace aA:=Z_ HB.out.at;clear eP;go_wp2_with fail
     refine HN.out.mono ?_
     rintro e u19 hr;obtain⟨hC,⟨lb,hp,rfl⟩|⟨_,l19,_,hp,rfl,rfl,hP⟩⟩:=hr.cases (di _ _)
     ·have HF:=Z_ (Out.aF HT.out hp)
      have HC:=Z_ (aA.out.aK.then hC);clear hr hp hC;go_wp2_with fail
      exact⟨rfl,eC.fails HC.out HF.out⟩
     replace HT:=Z_ (Out.aG HT.out hp);replace HB:=Z_ (HB.out.call hC hP (by have:=bF.aZ hp;omega));replace aA:=Z_ HB.out.at;clear hr hp hC hP HN;have HT0:=HT.out;clear HT;unfold kN at HT0;have HT:=Z_ HT0;clear HT0;have HN:=Z_ (b_ (aA.out.pr.alloc (.cells #[.string cZ] 9)) u19.heap.size 1 cZ ((aC.made u19 #[.string cZ] 9).cell 0));have eP:=(aB.refl (fun _=>False) u19).alloc (.cells #[.string cZ] 9);replace HB:=Z_ (HB.out.extend eP);replace aA:=Z_ HB.out.at;clear eP;go_wp2_with fail
     refine HN.out.mono ?_
     rintro e u20 hr;obtain⟨hC,⟨lb,hp,rfl⟩|⟨_,l20,_,hp,rfl,rfl,hP⟩⟩:=hr.cases (di _ _)
     ·have HF:=Z_ (Out.aF HT.out hp)
      have HC:=Z_ (aA.out.aK.then hC);clear hr hp hC;go_wp2_with fail
      exact⟨rfl,eC.fails HC.out HF.out⟩
     replace HT:=Z_ (Out.aG HT.out hp);replace HB:=Z_ (HB.out.call hC hP (by have:=bF.aZ hp;omega));replace aA:=Z_ HB.out.at;clear hr hp hC hP HN;obtain⟨ra,rn,rc,hrow⟩:=HB.out.slice3
     first|subst hrow|clear hrow
     have c0:=HB.out.nd.cell 0;have c1:=HB.out.nd.cell 1;have c2:=HB.out.nd.cell 2;have c3:=HB.out.nd.cell 3;have r0:=HB.out.res.cell;have rf:=HB.out.res.frozen;have rl:=HB.out.res.lt;unfold bK at r0;simp at c0 c1 c2 c3
     go_wp2_with fail
     refine bG rfl rfl rfl ((((HB.out.res.set 0 _).set 1 _).set 2 _).set 3 _) Tryz.underlying24 rfl (by kernel_rfl) ?_
     exact HB.out.ret (by have:=mM.out;omega) (HT.out.symm) _ _ _ _
  | true=>
   replace hP:bz W u12 S E l.tail.tail:=by simpa using hP
   have HT0:=HT.out;clear HT;simp only [↓reduceIte] at HT0;have HT:=Z_ HT0;clear HT0;replace aA:=Z_ (aA.out.call hC hP);clear hC hP HH gu;have iE:=aA.out.lt;obtain⟨B,hB⟩:∃ B,u12.heap.size=B:=⟨_,rfl⟩;rw [hB] at iE;have HN:=Z_ (ih n (Nat.le_refl _) (.proc 2) _ _ aA.out.pr HM.out rfl (by decide:(0:Int)≤2∧(2:Int)≤2) (by rw [HT.out];exact h_.out));go_wp2_with fail
   refine HN.out.mono ?_
   rintro e u20 hr;obtain⟨hC,⟨lb,hp,rfl⟩|⟨x20,l20,v20,hp,rfl,hv,hP⟩⟩:=hr.cases (by rw [HT.out];exact h_.out)
   ·have HF:=Z_ (HT.out.symm.trans hp)
    have HC:=Z_ (aA.out.aK.then hC);clear hr hp hC;go_wp2_with fail
    exact⟨rfl,eC.fails HC.out HF.out⟩
   replace HT:=Z_ (HT.out.symm.trans hp);replace aA:=Z_ (aA.out.call hC hP);obtain⟨TY,TZ,T_,Ua,Ub,Uc,rfl⟩:=cH hv;have LW:=Z_ hv;have LY:u12.heap.size≤u20.heap.size:=hC.size;clear hr hp hC hP hv HN;rw [hB] at LW;have r0:=aA.out.res.cell;have rf:=aA.out.res.frozen;have rl:=aA.out.res.lt;unfold bK at r0;go_wp2_with fail
   refine bG rfl rfl rfl ((((aA.out.res.set 0 _).set 1 _).set 2 _).set 3 _) Tryz.underlying24 rfl (by kernel_rfl) ?_
   exact eM aA.out (below B) (LW.out) (cg (by omega)) (fun i hi=>cg (by omega)) (HT.out)
set_option maxRecDepth 100000 in
set_option maxHeartbeats 4000000 in
theorem L8 {n:Nat} (ih:∀ m,m≤n→Good m) {W w:World} {S E:Nat} {l:List Tk} {dR:Int} (h:bz W w S E l) (hm:cE W) (Pe:0≤dR∧dR≤2) (hne:bJ (n+1) (.proc dR) l≠.out) :
  Calls Tryz.prog 176 #[.pointer (some ⟨S,0,none⟩),.int .i64 dR] w (eC (VN w.heap.size) W w S E (bJ (n+1) (.proc dR) l)):=by
 obtain⟨T,hT⟩:∃ T,bJ (n+1) (.proc dR) l=T:=⟨_,rfl⟩;rw [hT] at hne ⊢;simp only [bJ] at hT;have HT:=Z_ hT;have h_:=Z_ hne;have HM:=Z_ hm;have aA:Hid (At W w (w.alloc (.cells #[.int .i64 0,.string ⟨#[]⟩,.int .i64 0,.slice none 0 0] 24)) S E w.heap.size l):=Z_ (At.start h);obtain⟨A,hA⟩:∃ A,w.heap.size=A:=⟨_,rfl⟩;rw [hA] at aA;have Pj:S<A:=by have:=h.lt;omega
 clear h hm hne hT;go_enter Tryz.func176,Tryz.ntmps176
 go_upto_region 1 with (fail)
 generalize w.alloc (.cells #[.int .i64 0,.string ⟨#[]⟩,.int .i64 0,.slice none 0 0] 24)=u0 at *;have Dn:=Z_ Pe;clear Pe;have HN:=Z_ (name_any aA.out.pr HM.out);go_wp2_with fail
 refine HN.out.mono ?_
 rintro e u1 hr;obtain⟨hC,⟨lb,hp,rfl⟩|⟨s1,l1,v,hp,rfl,⟨rfl,hs⟩,hP⟩⟩:=hr.cases (iI _)
 ·have HF:=Z_ (Out.aF HT.out hp)
  have HC:=Z_ (aA.out.aK.then hC);clear hr hp hC;go_wp2_with fail
  exact⟨rfl,eC.fails HC.out HF.out⟩
 replace HT:=Z_ (Out.aG HT.out hp);replace aA:=Z_ (aA.out.call hC hP);have mM:=Z_ hs;clear hr hp hC hP HN;clear hs;generalize s1=s at *;go_wp2_with fail
 refine(dH _ _ _ _ _ _ _).mono ?_
 rintro e u2 ⟨rfl,hE⟩;replace aA:=Z_ (aA.out.extend hE);have HB:=Z_ ((aA.out.alloc (.cells #[.int .i64 (4),.string s,.int .i64 (dR),.slice none 0 0] 24)).U7 (aC.made u2 _ _) aA.out.lt);obtain⟨N,hN⟩:∃ N,u2.heap.size=N:=⟨_,rfl⟩;rw [hN] at HB;clear hE aA;go_upto_region 2 with (fail)
 generalize u2.alloc (.cells #[.int .i64 (4),.string s,.int .i64 (dR),.slice none 0 0] 24)=v0 at *;have aA:=Z_ HB.out.at;have HN:=Z_ (b_ (aA.out.pr.alloc (.cells #[.string iD] 9)) v0.heap.size 1 iD ((aC.made v0 #[.string iD] 9).cell 0));have eP:=(aB.refl (fun _=>False) v0).alloc (.cells #[.string iD] 9);replace HB:=Z_ (HB.out.extend eP);replace aA:=Z_ HB.out.at;clear eP;go_wp2_with fail
 refine HN.out.mono ?_
 rintro e u3 hr;obtain⟨hC,⟨lb,hp,rfl⟩|⟨_,l3,_,hp,rfl,rfl,hP⟩⟩:=hr.cases (di _ _)
 ·have HF:=Z_ (Out.aF HT.out hp)
  have HC:=Z_ (aA.out.aK.then hC);clear hr hp hC;go_wp2_with fail
  exact⟨rfl,eC.fails HC.out HF.out⟩
 replace HT:=Z_ (Out.aG HT.out hp);replace HB:=Z_ (HB.out.call hC hP (by have:=bF.aZ hp;omega));replace aA:=Z_ HB.out.at;clear hr hp hC hP HN;go_upto_block 0 with (fail)
 go_cut [] (fun w'=>∃ (mm:Nat) (acc:List Nd) (row:Value) (l2:List Tk),mm≤n∧Hid ((fun (mm:Nat) (acc:List Nd) (l:List Tk)=>(dY dN l).bind fun _ l=>(dG l).bind fun b l=>if fK l [oZ]=true then (dG l.tail).bind fun g l=>(bJ mm .block l).bind fun x l=>.got (.mk 4 s (dR+b+(4+4*g)) (acc ++ [x])) l else (bJ mm .block l).bind fun x l=>.got (.mk 4 s (dR+b) (acc ++ [x])) l) mm acc l2=T)∧Hid (iU W w w' S E A N l2 4 s dR row row acc))
 case first=>
  go_wp2_with fail
  go_loopg [] n (fun k wr=>∃ l2 acc row,k≤n∧Hid (bJ k (.params s dR acc) l2=T)∧Hid (iU W w wr S E A N l2 4 s dR row row acc))
  case atStart=>exact⟨l3,[],.slice none 0 0,Nat.le_refl _,HT,HB⟩
  clear HT HB aA
  case round=>
   obtain⟨lr,acc,row,hkn,HT,HB⟩:=hrel;cases gk with
   | zero=>exact absurd HT.out.symm h_.out
   | succ m=>
    have HT0:=HT.out;clear HT;simp only [bJ] at HT0;have HT:=Z_ HT0;clear HT0;have aA:=Z_ HB.out.at;obtain⟨ra,rc,rfl⟩:=HB.out.slice
    have HH:=Z_ (uq (aA.out.pr.alloc (.cells #[.string dN] 9)) wr.heap.size [dN] 1 1 rfl (by decide) (fun j hj=>by
     obtain rfl:j=0:=by simpa using hj
     exact(aC.made wr #[.string dN] 9).cell 0) (by simp))
    have eP:=(aB.refl (fun _=>False) wr).alloc (.cells #[.string dN] 9);replace HB:=Z_ (HB.out.extend eP);replace aA:=Z_ HB.out.at;clear eP;generalize fK lr [dN]=R at *;go_wp2_with fail
    refine HH.out.mono ?_
    rintro e u4 ⟨rfl,hE⟩;replace HB:=Z_ (HB.out.extend hE);replace aA:=Z_ HB.out.at;clear hE HH;cases R with
    | false=>
     have HT0:=HT.out;clear HT;simp only [Bool.false_eq_true,false_and,↓reduceIte] at HT0;have HT:=Z_ HT0;clear HT0;have HN:=Z_ (dF aA.out.pr);go_wp2_with fail
     refine HN.out.mono ?_
     rintro e u5 hr;obtain⟨hC,⟨lb,hp,rfl⟩|⟨b5,l5,v,hp,rfl,⟨rfl,hb0,hb1⟩,hP⟩⟩:=hr.cases (je _)
     ·have HF:=Z_ (Out.aF HT.out hp)
      have HC:=Z_ (aA.out.aK.then hC);clear hr hp hC;go_wp2_with fail
      exact⟨rfl,eC.fails HC.out HF.out⟩
     replace HT:=Z_ (Out.aG HT.out hp);replace HB:=Z_ (HB.out.call hC hP (by have:=bF.dQ hp;omega));replace aA:=Z_ HB.out.at;have HBP:=Z_ (And.intro hb0 hb1);clear hr hp hC hP HN;clear hb0 hb1;go_upto_region 5 with (fail)
     refine aj [3,5,6,7,9] (fun i v _=>v=([.pointer (some ⟨N,3,none⟩),(.slice ra acc.length rc),.pointer (some ⟨S,0,none⟩),undef,.int .i64 b5,undef,undef,undef,.pointer (some ⟨N,3,none⟩),undef]:List Value).getD i undef) (uT W w S E A N l5 4 s dR (.slice ra acc.length rc) acc 5 b5) (fun _ _=>True) (frame:=?ES) (fun x=>?rK) mixed (by kernel_rfl) (by kernel_rfl) (fun _ _ _ _ h _=>h) ?ET ?EU ?rL
     case rK=>
      simp only [chain.aN,chain.fill,chain.bf,chain.aY,jW,jX,jY,jZ,kz,kC,kD,kE,kF];exact rfl
     case ET=>exact HB.out.extend (aB.refl _ _).drew
     case EU=>
      iterate 10 (refine ak.cons (fun x vs u hF hm hb hd K' hK'=>?_) ?_;rotate_left)
      exact ak.nil
      ·have HF:=Z_ hF;clear hd hm hb hF;go_simp;exact hK'.out _ _ _ rfl trivial ⟨rfl,HF.out⟩
      ·have y0:x 26=.pointer (some ⟨N,3,none⟩):=(D_ hd 0 :);have hc:=hF.cell (by have:=hb 3 _ (by decide) rfl (by kernel_rfl);omega);have HF:=Z_ hF;clear hd hm hb hF;go_simp;exact hK'.out _ _ _ (by simp only [y0];rfl) trivial ⟨rfl,HF.out⟩
      ·have HF:=Z_ hF;clear hd hm hb hF;go_simp;exact hK'.out _ _ _ rfl trivial ⟨rfl,HF.out⟩
      ·have y0:x 28=.pointer (some ⟨S,0,none⟩):=(D_ hd 2 :);obtain rfl:=kS hm;have HF:=Z_ (show iU _ _ _ _ _ _ _ _ _ _ _ _ _ _ from hF);clear hd hm hb hF;have jM:=Z_ (name_any HF.out.pr HM.out);go_simp;refine jM.out.mono ?_
       rintro e u2 hr;obtain⟨hC,⟨lb,hp,rfl⟩|⟨sn,lx,v,hp,rfl,⟨rfl,hsz⟩,hP⟩⟩:=hr.cases (iI _)
       ·have HE:=Z_ (Out.aF HT.out hp)
        have HC:=Z_ (HF.out.aK.then hC);clear hr hp hC hK' jM;go_wp2_with fail
        exact⟨rfl,eC.fails HC.out HE.out⟩
       ·exact hK'.out _ _ _ (by simp only [y0];rfl) trivial (rO HF.out hC hp hsz hP)
      ·have HF:=Z_ hF;clear hd hm hb hF;go_simp;exact hK'.out _ _ _ rfl trivial ⟨rfl,HF.out⟩
      ·obtain⟨v0,rfl⟩:=mD hm
       have y0:x 29=v0:=((D_ hd 3) 29 (by kernel_rfl) :);have y1:x 30=.int .i64 b5:=(D_ hd 4 :);have hcl:∃ s,v0=.string s:=by obtain⟨s,ln,_,e,_⟩:=hF;exact⟨s,e⟩
       obtain⟨sn,rfl⟩:=hcl;have HF:=Z_ hF;clear hd hm hb hF;go_simp;refine(dH _ _ _ _ _ _ _).mono ?_
       rintro e u2 ⟨rfl,hE⟩;exact hK'.out _ _ _ (by simp only [y0,y1];rfl) trivial (rP HF.out hE)
      ·obtain⟨vz,v0,rfl⟩:∃ vz v0,vs=[vz,v0]:=by match vs,hm 2 (by kernel_rfl) with|[vz,v0],_=>exact⟨_,_,rfl⟩
       have y0:x 31=v0:=((D_ hd 5) 31 (by kernel_rfl) :);replace hF:fJ W w S E A N l5 4 s dR (.slice ra acc.length rc) acc (mZ 5 b5 l5) [v0] u:=hF;have hcl:∃ a b c d,v0=.agg #[a,b,c,d]:=by obtain⟨xn,ln,_,_,_,hx⟩:=hF;obtain⟨a,b,c,d,h,_⟩:=bD hx;exact⟨a,b,c,d,h⟩
       obtain⟨a0,b0,c0,d0,rfl⟩:=hcl;have HF:=Z_ hF;clear hd hm hb hF;go_simp;exact hK'.out _ _ _ (by simp only [y0];rfl) trivial (dU HF.out rfl)
      ·obtain⟨vz,v0,v1,rfl⟩:∃ vz v0 v1,vs=[vz,v0,v1]:=by match vs,hm 3 (by kernel_rfl) with|[vz,v0,v1],_=>exact⟨_,_,_,rfl⟩
       have y0:x 27=(.slice ra acc.length rc):=(D_ hd 1 :);have y1:x 32=v1:=((D_ hd 6) 32 (by kernel_rfl) :);replace hF:fJ W w S E A N l5 4 s dR (.slice ra acc.length rc) acc (mZ 5 b5 l5) [v0,v1] u:=hF;have hF2:=hF;obtain⟨xn,ln,hT1,aO,hfew,hx,gg,rfl,hgb,hgr⟩:=hF2;obtain⟨us,hu1,ho,hu3⟩:=aO.grow.ex;have hlt:=aO.lt;obtain⟨iW,iY,hz0,hz1,hz2⟩:=aW eU;refine wp_append_lies _ _ _ 22 rfl (N+1) 24 iW (.agg #[.int .i64 0,.string ⟨#[]⟩,.int .i64 0,.slice none 0 0]) 4 56 Tryz.underlying22 iY hz0 hz1 hz2 rfl (by decide) (.slice ra acc.length rc) acc.length (us.flatMap fun u=>u.cells.toList) y0 ho ⟨gg,0,none⟩ 1 1 v0.cells.toList y1 (by rw [Array.length_toList,fB hx]) ?_ (by obtain⟨a,b,c,d,e,e2,p1,p2,p3,p4⟩:=bD hx;rw [e2];intro q hq;simp at hq;rcases hq with rfl|rfl|rfl|rfl<;>assumption) (by decide) (by unfold maxLen;omega) (by omega) (by omega) u.heap.size rfl ?_
       ·intro j q hj;have e:(⟨gg,0,none⟩:Addr).add j=⟨gg,j,none⟩:=(by unfold Addr.add;split<;>simp_all);rw [e,hgb.cell];simpa using hj
       ·intro g9 c9 w9 ju iZ kU uI
        exact hK'.out _ _ _ rfl trivial (push_append hF hu1 hu3 ju iZ kU)
      ·have HF:=Z_ hF;clear hd hm hb hF;go_simp;exact hK'.out _ _ _ rfl trivial ⟨rfl,HF.out⟩
      ·obtain⟨vz,v0,v1,v2,rfl⟩:∃ vz v0 v1 v2,vs=[vz,v0,v1,v2]:=by match vs,hm 4 (by kernel_rfl) with|[vz,v0,v1,v2],_=>exact⟨_,_,_,_,rfl⟩
       have y0:x 34=.pointer (some ⟨N,3,none⟩):=(D_ hd 8 :);have y1:x 33=v2:=((D_ hd 7) 33 (by kernel_rfl) :);replace hF:fJ W w S E A N l5 4 s dR (.slice ra acc.length rc) acc (mZ 5 b5 l5) [v0,v1,v2] u:=hF;have hF2:=hF;obtain⟨xn,ln,hT1,aO,gg,cc,rfl⟩:=hF2;have hc:=aO.nd.cell 3;have hf:=aO.nd.frozen 3;have hl:=aO.lt;simp at hc
       have HF:=Z_ hF;clear hd hm hb hF aO hT1;go_simp;exact hK'.out _ _ undef (by simp only [y0,y1];rfl) trivial (dV (z:=undef) HF.out)
     case rL=>
      intro x vs w9 hl hF hk;obtain⟨vz,v0,v1,v2,v3,rfl⟩:∃ vz v0 v1 v2 v3,vs=[vz,v0,v1,v2,v3]:=by match vs,hl with|[vz,v0,v1,v2,v3],_=>exact⟨_,_,_,_,_,rfl⟩
      obtain⟨xn,ln,hT1,jV⟩:=hF;clear hk hl;have hT2:=hT1.out;unfold mZ at hT2;obtain⟨sn,lz,hq1,hq2⟩:=bF.ag hT2;injection hq2 with hq3 hq4
      subst hq3 hq4;replace HT:=Z_ (Out.aG HT.out hq1);replace HB:=Z_ jV;replace aA:=Z_ HB.out.at;clear hT1 jV hT2 hq1;have HH:=Z_ (dh aA.out.pr jS);have gu:=Z_ (fun (h:fK lz [jS]=true)=>bF.aV h);generalize fK lz [jS]=R at *;go_wp2_with fail
      refine HH.out.mono ?_
      rintro e u6 ⟨rfl,hC,hP⟩;cases R with
      | false=>
       replace hP:bz W u6 S E lz:=by simpa using hP
       have HT0:=HT.out;clear HT;simp only [Bool.false_eq_true,↓reduceIte] at HT0;have HT:=Z_ HT0;clear HT0;replace HB:=Z_ (HB.out.call hC hP (Nat.le_refl _));replace aA:=Z_ HB.out.at;clear hC hP HH gu;go_wp2_with fail
       go_meet
       exact⟨m,acc ++ [.mk 5 sn b5 []],v2,lz,by omega,HT,HB⟩
      | true=>
       replace hP:bz W u6 S E lz.tail:=by simpa using hP
       have HT0:=HT.out;clear HT;simp only [↓reduceIte] at HT0;have HT:=Z_ HT0;clear HT0;replace HB:=Z_ (HB.out.call hC hP (by have:=gu.out rfl;omega));replace aA:=Z_ HB.out.at;clear hC hP HH gu;go_wp2_with fail
       go_roundg m
       case rel=>exact⟨lz.tail,acc ++ [.mk 5 sn b5 []],v2,by omega,HT,HB⟩
       case measure=>omega
    | true=>
     have c3:=HB.out.nd.cell 3;simp at c3
     by_cases hl0:acc.length=0
     ·have HT0:=HT.out
      clear HT;simp only [hl0,and_self,↓reduceIte] at HT0;have HT:=Z_ HT0;clear HT0;have HB2:Hid (∃ row,iU W w u4 S E A N lr 4 s dR row row acc):=Z_ ⟨_,HB.out⟩;clear HB aA;rw [hl0] at c3;go_wp2_with fail
      go_meet
      obtain⟨row,HB⟩:=HB2.out;exact⟨m,acc,row,lr,by omega,HT,Z_ HB⟩
     ·have HT0:=HT.out
      clear HT;simp only [hl0,and_false,↓reduceIte] at HT0;have HT:=Z_ HT0;clear HT0;have hl1:0<acc.length:=by omega
      have HN:=Z_ (dF aA.out.pr);go_wp2_with fail
      refine HN.out.mono ?_
      rintro e u6 hr;obtain⟨hC,⟨lb,hp,rfl⟩|⟨b6,l6,v,hp,rfl,⟨rfl,hb0,hb1⟩,hP⟩⟩:=hr.cases (je _)
      ·have HF:=Z_ (Out.aF HT.out hp)
       have HC:=Z_ (aA.out.aK.then hC);clear hr hp hC;go_wp2_with fail
       exact⟨rfl,eC.fails HC.out HF.out⟩
      replace HT:=Z_ (Out.aG HT.out hp);replace HB:=Z_ (HB.out.call hC hP (by have:=bF.dQ hp;omega));replace aA:=Z_ HB.out.at;have HBP:=Z_ (And.intro hb0 hb1);clear hr hp hC hP HN;clear hb0 hb1;go_upto_region 5 with (fail)
      refine aj [3,5,6,7,9] (fun i v _=>v=([.pointer (some ⟨N,3,none⟩),(.slice ra acc.length rc),.pointer (some ⟨S,0,none⟩),undef,.int .i64 b6,undef,undef,undef,.pointer (some ⟨N,3,none⟩),undef]:List Value).getD i undef) (uT W w S E A N l6 4 s dR (.slice ra acc.length rc) acc 5 b6) (fun _ _=>True) (frame:=?Es) (fun x=>?rD) mixed (by kernel_rfl) (by kernel_rfl) (fun _ _ _ _ h _=>h) ?Et ?Eu ?rE
      case rD=>
       simp only [chain.aN,chain.fill,chain.bf,chain.aY,jW,jX,jY,jZ,kz,kC,kD,kE,kF];exact rfl
      case Et=>exact HB.out.extend (aB.refl _ _).drew
      case Eu=>
       iterate 10 (refine ak.cons (fun x vs u hF hm hb hd K' hK'=>?_) ?_;rotate_left)
       exact ak.nil
       ·have HF:=Z_ hF;clear hd hm hb hF;go_simp;exact hK'.out _ _ _ rfl trivial ⟨rfl,HF.out⟩
       ·have y0:x 26=.pointer (some ⟨N,3,none⟩):=(D_ hd 0 :);have hc:=hF.cell (by have:=hb 3 _ (by decide) rfl (by kernel_rfl);omega);have HF:=Z_ hF;clear hd hm hb hF;go_simp;exact hK'.out _ _ _ (by simp only [y0];rfl) trivial ⟨rfl,HF.out⟩
       ·have HF:=Z_ hF;clear hd hm hb hF;go_simp;exact hK'.out _ _ _ rfl trivial ⟨rfl,HF.out⟩
       ·have y0:x 28=.pointer (some ⟨S,0,none⟩):=(D_ hd 2 :);obtain rfl:=kS hm;have HF:=Z_ (show iU _ _ _ _ _ _ _ _ _ _ _ _ _ _ from hF);clear hd hm hb hF;have jM:=Z_ (name_any HF.out.pr HM.out);go_simp;refine jM.out.mono ?_
        rintro e u2 hr;obtain⟨hC,⟨lb,hp,rfl⟩|⟨sn,lx,v,hp,rfl,⟨rfl,hsz⟩,hP⟩⟩:=hr.cases (iI _)
        ·have HE:=Z_ (Out.aF HT.out hp)
         have HC:=Z_ (HF.out.aK.then hC);clear hr hp hC hK' jM;go_wp2_with fail
         exact⟨rfl,eC.fails HC.out HE.out⟩
        ·exact hK'.out _ _ _ (by simp only [y0];rfl) trivial (rO HF.out hC hp hsz hP)
       ·have HF:=Z_ hF;clear hd hm hb hF;go_simp;exact hK'.out _ _ _ rfl trivial ⟨rfl,HF.out⟩
       ·obtain⟨v0,rfl⟩:=mD hm
        have y0:x 29=v0:=((D_ hd 3) 29 (by kernel_rfl) :);have y1:x 30=.int .i64 b6:=(D_ hd 4 :);have hcl:∃ s,v0=.string s:=by obtain⟨s,ln,_,e,_⟩:=hF;exact⟨s,e⟩
        obtain⟨sn,rfl⟩:=hcl;have HF:=Z_ hF;clear hd hm hb hF;go_simp;refine(dH _ _ _ _ _ _ _).mono ?_
        rintro e u2 ⟨rfl,hE⟩;exact hK'.out _ _ _ (by simp only [y0,y1];rfl) trivial (rP HF.out hE)
       ·obtain⟨vz,v0,rfl⟩:∃ vz v0,vs=[vz,v0]:=by match vs,hm 2 (by kernel_rfl) with|[vz,v0],_=>exact⟨_,_,rfl⟩
        have y0:x 31=v0:=((D_ hd 5) 31 (by kernel_rfl) :);replace hF:fJ W w S E A N l6 4 s dR (.slice ra acc.length rc) acc (mZ 5 b6 l6) [v0] u:=hF;have hcl:∃ a b c d,v0=.agg #[a,b,c,d]:=by obtain⟨xn,ln,_,_,_,hx⟩:=hF;obtain⟨a,b,c,d,h,_⟩:=bD hx;exact⟨a,b,c,d,h⟩
        obtain⟨a0,b0,c0,d0,rfl⟩:=hcl;have HF:=Z_ hF;clear hd hm hb hF;go_simp;exact hK'.out _ _ _ (by simp only [y0];rfl) trivial (dU HF.out rfl)
       ·obtain⟨vz,v0,v1,rfl⟩:∃ vz v0 v1,vs=[vz,v0,v1]:=by match vs,hm 3 (by kernel_rfl) with|[vz,v0,v1],_=>exact⟨_,_,_,rfl⟩
        have y0:x 27=(.slice ra acc.length rc):=(D_ hd 1 :);have y1:x 32=v1:=((D_ hd 6) 32 (by kernel_rfl) :);replace hF:fJ W w S E A N l6 4 s dR (.slice ra acc.length rc) acc (mZ 5 b6 l6) [v0,v1] u:=hF;have hF2:=hF;obtain⟨xn,ln,hT1,aO,hfew,hx,gg,rfl,hgb,hgr⟩:=hF2;obtain⟨us,hu1,ho,hu3⟩:=aO.grow.ex;have hlt:=aO.lt;obtain⟨iW,iY,hz0,hz1,hz2⟩:=aW eU;refine wp_append_lies _ _ _ 22 rfl (N+1) 24 iW (.agg #[.int .i64 0,.string ⟨#[]⟩,.int .i64 0,.slice none 0 0]) 4 56 Tryz.underlying22 iY hz0 hz1 hz2 rfl (by decide) (.slice ra acc.length rc) acc.length (us.flatMap fun u=>u.cells.toList) y0 ho ⟨gg,0,none⟩ 1 1 v0.cells.toList y1 (by rw [Array.length_toList,fB hx]) ?_ (by obtain⟨a,b,c,d,e,e2,p1,p2,p3,p4⟩:=bD hx;rw [e2];intro q hq;simp at hq;rcases hq with rfl|rfl|rfl|rfl<;>assumption) (by decide) (by unfold maxLen;omega) (by omega) (by omega) u.heap.size rfl ?_
        ·intro j q hj;have e:(⟨gg,0,none⟩:Addr).add j=⟨gg,j,none⟩:=(by unfold Addr.add;split<;>simp_all);rw [e,hgb.cell];simpa using hj
        ·intro g9 c9 w9 ju iZ kU uI
         exact hK'.out _ _ _ rfl trivial (push_append hF hu1 hu3 ju iZ kU)
       ·have HF:=Z_ hF;clear hd hm hb hF;go_simp;exact hK'.out _ _ _ rfl trivial ⟨rfl,HF.out⟩
       ·obtain⟨vz,v0,v1,v2,rfl⟩:∃ vz v0 v1 v2,vs=[vz,v0,v1,v2]:=by match vs,hm 4 (by kernel_rfl) with|[vz,v0,v1,v2],_=>exact⟨_,_,_,_,rfl⟩
        have y0:x 34=.pointer (some ⟨N,3,none⟩):=(D_ hd 8 :);have y1:x 33=v2:=((D_ hd 7) 33 (by kernel_rfl) :);replace hF:fJ W w S E A N l6 4 s dR (.slice ra acc.length rc) acc (mZ 5 b6 l6) [v0,v1,v2] u:=hF;have hF2:=hF;obtain⟨xn,ln,hT1,aO,gg,cc,rfl⟩:=hF2;have hc:=aO.nd.cell 3;have hf:=aO.nd.frozen 3;have hl:=aO.lt;simp at hc
        have HF:=Z_ hF;clear hd hm hb hF aO hT1;go_simp;exact hK'.out _ _ undef (by simp only [y0,y1];rfl) trivial (dV (z:=undef) HF.out)
      case rE=>
       intro x vs w9 hl hF hk;obtain⟨vz,v0,v1,v2,v3,rfl⟩:∃ vz v0 v1 v2 v3,vs=[vz,v0,v1,v2,v3]:=by match vs,hl with|[vz,v0,v1,v2,v3],_=>exact⟨_,_,_,_,_,rfl⟩
       obtain⟨xn,ln,hT1,jV⟩:=hF;clear hk hl;have hT2:=hT1.out;unfold mZ at hT2;obtain⟨sn,lz,hq1,hq2⟩:=bF.ag hT2;injection hq2 with hq3 hq4
       subst hq3 hq4;replace HT:=Z_ (Out.aG HT.out hq1);replace HB:=Z_ jV;replace aA:=Z_ HB.out.at;clear hT1 jV hT2 hq1;have HH:=Z_ (dh aA.out.pr jS);have gu:=Z_ (fun (h:fK lz [jS]=true)=>bF.aV h);generalize fK lz [jS]=R at *;go_wp2_with fail
       refine HH.out.mono ?_
       rintro e u7 ⟨rfl,hC,hP⟩;cases R with
       | false=>
        replace hP:bz W u7 S E lz:=by simpa using hP
        have HT0:=HT.out;clear HT;simp only [Bool.false_eq_true,↓reduceIte] at HT0;have HT:=Z_ HT0;clear HT0;replace HB:=Z_ (HB.out.call hC hP (Nat.le_refl _));replace aA:=Z_ HB.out.at;clear hC hP HH gu;go_wp2_with fail
        go_meet
        exact⟨m,acc ++ [.mk 5 sn b6 []],v2,lz,by omega,HT,HB⟩
       | true=>
        replace hP:bz W u7 S E lz.tail:=by simpa using hP
        have HT0:=HT.out;clear HT;simp only [↓reduceIte] at HT0;have HT:=Z_ HT0;clear HT0;replace HB:=Z_ (HB.out.call hC hP (by have:=gu.out rfl;omega));replace aA:=Z_ HB.out.at;clear hC hP HH gu;go_wp2_with fail
        go_roundg m
        case rel=>exact⟨lz.tail,acc ++ [.mk 5 sn b6 []],v2,by omega,HT,HB⟩
        case measure=>omega
 case rest=>
  clear HT HB aA;obtain⟨mm,acc,row,l2,hmm,HT,HB⟩:=hcut;have aA:=Z_ HB.out.at;generalize wc=u7 at *;have HT0:=HT.out;clear HT;simp only at HT0;have HT:=Z_ HT0;clear HT0;have HN:=Z_ (b_ (aA.out.pr.alloc (.cells #[.string dN] 9)) u7.heap.size 1 dN ((aC.made u7 #[.string dN] 9).cell 0));have eP:=(aB.refl (fun _=>False) u7).alloc (.cells #[.string dN] 9);replace HB:=Z_ (HB.out.extend eP);replace aA:=Z_ HB.out.at;clear eP;go_wp2_with fail
  refine HN.out.mono ?_
  rintro e u6 hr;obtain⟨hC,⟨lb,hp,rfl⟩|⟨_,l6,_,hp,rfl,rfl,hP⟩⟩:=hr.cases (di _ _)
  ·have HF:=Z_ (Out.aF HT.out hp)
   have HC:=Z_ (aA.out.aK.then hC);clear hr hp hC;go_wp2_with fail
   exact⟨rfl,eC.fails HC.out HF.out⟩
  replace HT:=Z_ (Out.aG HT.out hp);replace HB:=Z_ (HB.out.call hC hP (by have:=bF.aZ hp;omega));replace aA:=Z_ HB.out.at;clear hr hp hC hP HN;go_upto_region 8 with (fail)
  refine aj [3,4,6] (fun i v _=>v=([.pointer (some ⟨N,2,none⟩),.int .i64 (dR),.pointer (some ⟨S,0,none⟩),undef,undef,.pointer (some ⟨N,2,none⟩),undef]:List Value).getD i undef) (Aq W w S E A N l6 4 s (dR) row acc [fun b=>dR+b]) (fun _ _=>True) (frame:=?KJ) (fun x=>?r_) mixed (by kernel_rfl) (by kernel_rfl) (fun _ _ _ _ h _=>h) ?h0c ?KL ?wV
  case r_=>
   simp only [chain.aN,chain.fill,chain.bf,chain.aY,jW,jX,jY,jZ,kz,kC,kD,kE,kF];exact rfl
  case h0c=>exact HB.out.extend (aB.refl _ _).drew
  case KL=>
   iterate 7 (refine ak.cons (fun x vs u hF hm hb hd K' hK'=>?_) ?_;rotate_left)
   exact ak.nil
   ·have HF:=Z_ hF;clear hd hm hb hF;go_simp;exact hK'.out _ _ _ rfl trivial ⟨rfl,HF.out⟩
   ·have y0:x 41=.pointer (some ⟨N,2,none⟩):=(D_ hd 0 :);have hc:=hF.cell (by have:=hb 1 _ (by decide) rfl (by kernel_rfl);simp only [List.length_cons,List.length_nil];omega);have HF:=Z_ hF;clear hd hm hb hF;go_simp;exact hK'.out _ _ _ (by simp only [y0];rfl) trivial ⟨rfl,HF.out⟩
   ·have HF:=Z_ hF;clear hd hm hb hF;go_simp;exact hK'.out _ _ _ rfl trivial ⟨rfl,HF.out⟩
   ·have y0:x 43=.pointer (some ⟨S,0,none⟩):=(D_ hd 2 :);obtain rfl:=kS hm;have HF:=Z_ (show iU _ _ _ _ _ _ _ _ _ _ _ _ _ _ from hF);clear hd hm hb hF;have jM:=Z_ (dF HF.out.pr);go_simp;refine jM.out.mono ?_
    rintro e u2 hr;obtain⟨hC,⟨lb,hp,rfl⟩|⟨sn,lx,v,hp,rfl,⟨rfl,hb0,hb1⟩,hP⟩⟩:=hr.cases (je _)
    ·have HE:=Z_ (Out.aF HT.out hp)
     have HC:=Z_ (HF.out.aK.then hC);clear hr hp hC hK' jM;go_wp2_with fail
     exact⟨rfl,eC.fails HC.out HE.out⟩
    ·exact hK'.out _ _ _ (by simp only [y0];rfl) trivial (zf HF.out hC hp hb0 hb1 hP)
   ·obtain⟨vb,rfl⟩:∃ vb,vs=[vb]:=by match vs,hm 1 (by kernel_rfl) with|[vb],_=>exact⟨_,rfl⟩
    have hcl:∃ b,vb=.int .i64 b∧0≤b∧b≤1:=by obtain⟨b,l',_,e,h0,h1,hs,_⟩:=hF;exact⟨b,e,h0,h1⟩
    obtain⟨b,rfl,hb0,hb1⟩:=hcl;have y0:x 44=.int .i64 (b):=((D_ hd 3) 44 (by kernel_rfl) :);have y1:x 42=.int .i64 (dR):=(D_ hd 1 :);obtain⟨hw8,Ud⟩:=oH (n:=dR+b) (by have:=Dn.out;omega) (by have:=Dn.out;omega);have HF:=Z_ hF;clear hd hm hb hF;go_simp;exact hK'.out _ _ _ (by simp only [y0,y1];rfl) trivial (by first|exact tC (r:=[]) HF.out (by simp) rfl)
   ·have HF:=Z_ hF;clear hd hm hb hF;go_simp;exact hK'.out _ _ _ rfl trivial ⟨rfl,HF.out⟩
   ·obtain⟨vb,v0,rfl⟩:∃ vb v0,vs=[vb,v0]:=by match vs,hm 2 (by kernel_rfl) with|[vb,v0],_=>exact⟨_,_,rfl⟩
    have hcl:∃ b,vb=.int .i64 b∧0≤b∧b≤1∧v0=.int .i64 (dR+b):=by obtain⟨b,l',_,e,h0,h1,hs,_⟩:=hF;exact⟨b,e,h0,h1,by have:=hs 0 (by simp) (by simp);simpa using this⟩
    obtain⟨b,rfl,hb0,hb1,rfl⟩:=hcl;have y0:x 46=.pointer (some ⟨N,2,none⟩):=(D_ hd 5 :);have y1:x 45=.int .i64 (dR+b):=((D_ hd 4) 45 (by kernel_rfl) :);have aO:∃ l',iU W w u S E A N l' 4 s (dR) row row acc:=by obtain⟨b',l',_,_,_,_,_,h⟩:=hF;exact⟨l',h⟩
    obtain⟨l',aO⟩:=aO;have hc:=aO.nd.cell 2;have hf:=aO.nd.frozen 2;have hl:=aO.lt;simp at hc
    clear aO;have HF:=Z_ hF;clear hd hm hb hF;go_simp;exact hK'.out _ _ undef (by simp only [y0,y1];rfl) trivial (zg (r:=[.int .i64 (dR+b)]) (z:=undef) HF.out (by simp) rfl)
  case wV=>
   intro x vs w9 hl hF hk;obtain⟨vb,v0,vz,rfl⟩:∃ vb v0 vz,vs=[vb,v0,vz]:=by match vs,hl with|[vb,v0,vz],_=>exact⟨_,_,_,rfl⟩
   obtain⟨bc,E_,hT1,-,hb0,hb1,-,jV⟩:=hF;replace jV:iU W w w9 S E A N E_ 4 s (dR+bc) row row acc:=jV;clear hk hl;replace HT:=Z_ (Out.aG HT.out hT1.out);have Vl:=Z_ (And.intro hb0 hb1);replace HB:=Z_ jV;replace aA:=Z_ HB.out.at;clear hT1 jV hb0 hb1;have HH:=Z_ (dh aA.out.pr oZ);have gu:=Z_ (fun (h:fK E_ [oZ]=true)=>bF.aV h);generalize fK E_ [oZ]=R at *;go_wp2_with fail
   refine HH.out.mono ?_
   rintro e u7 ⟨rfl,hC,hP⟩;cases R with
   | false=>
    replace hP:bz W u7 S E E_:=by simpa using hP
    have HT0:=HT.out;clear HT;simp only [Bool.false_eq_true,↓reduceIte] at HT0;have HT:=Z_ HT0;clear HT0;replace HB:=Z_ (HB.out.call hC hP (Nat.le_refl _));replace aA:=Z_ HB.out.at;clear hC hP HH gu;go_upto_region 11 with (fail)
    refine aj [3,4,5,7] (fun i v _=>v=([.pointer (some ⟨N,3,none⟩),row,.pointer (some ⟨S,0,none⟩),undef,undef,undef,.pointer (some ⟨N,3,none⟩),undef]:List Value).getD i undef) (fJ W w S E A N E_ 4 s (dR+bc) row acc (bJ mm .block E_)) (fun _ _=>True) (frame:=?Wy) (fun x=>?Kq) mixed (by kernel_rfl) (by kernel_rfl) (fun _ _ _ _ h _=>h) ?WA ?WB ?find
    case Kq=>
     simp only [chain.aN,chain.fill,chain.bf,chain.aY,jW,jX,jY,jZ,kz,kC,kD,kE,kF];exact rfl
    case WA=>exact HB.out.extend (aB.refl _ _).drew
    case WB=>
     iterate 8 (refine ak.cons (fun x vs u hF hm hb hd K' hK'=>?_) ?_;rotate_left)
     exact ak.nil
     ·have HF:=Z_ hF;clear hd hm hb hF;go_simp;exact hK'.out _ _ _ rfl trivial ⟨rfl,HF.out⟩
     ·have y0:x 57=.pointer (some ⟨N,3,none⟩):=(D_ hd 0 :);have hc:=hF.cell (by have:=hb 2 _ (by decide) rfl (by kernel_rfl);omega);have HF:=Z_ hF;clear hd hm hb hF;go_simp;exact hK'.out _ _ _ (by simp only [y0];rfl) trivial ⟨rfl,HF.out⟩
     ·have HF:=Z_ hF;clear hd hm hb hF;go_simp;exact hK'.out _ _ _ rfl trivial ⟨rfl,HF.out⟩
     ·have y0:x 59=.pointer (some ⟨S,0,none⟩):=(D_ hd 2 :);obtain rfl:=kS hm;have HF:=Z_ (show iU _ _ _ _ _ _ _ _ _ _ _ _ _ _ from hF);clear hd hm hb hF;have jM:=Z_ (ih mm hmm .block _ _ HF.out.pr HM.out rfl trivial (Out.bh HT.out h_.out));go_simp;refine jM.out.mono ?_
      rintro e u2 hr;obtain⟨hC,⟨lb,hp,rfl⟩|⟨xn,ln,v,hp,rfl,hv,hP⟩⟩:=hr.cases (Out.bh HT.out h_.out)
      ·have HE:=Z_ (Out.aF HT.out hp)
       have HC:=Z_ (HF.out.aK.then hC);clear hr hp hC hK' jM;go_wp2_with fail
       exact⟨rfl,eC.fails HC.out HE.out⟩
      ·exact hK'.out _ _ _ (by simp only [y0];rfl) trivial (fQ HF.out hC hp hv hP (bF.dO _ _ _ _ _ hp))
     ·obtain⟨v0,rfl⟩:=mD hm
      have y0:x 60=v0:=((D_ hd 3) 60 (by kernel_rfl) :);have hcl:∃ a b c d,v0=.agg #[a,b,c,d]:=by obtain⟨xn,ln,_,_,_,hx⟩:=hF;obtain⟨a,b,c,d,h,_⟩:=bD hx;exact⟨a,b,c,d,h⟩
      obtain⟨a0,b0,c0,d0,rfl⟩:=hcl;have HF:=Z_ hF;clear hd hm hb hF;go_simp;exact hK'.out _ _ _ (by simp only [y0];rfl) trivial (dU HF.out rfl)
     ·obtain⟨v0,v1,rfl⟩:=tN hm
      have y0:x 58=row:=(D_ hd 1 :);have y1:x 61=v1:=((D_ hd 4) 61 (by kernel_rfl) :);have hF2:=hF;obtain⟨xn,ln,hT1,aO,hfew,hx,gg,rfl,hgb,hgr⟩:=hF2;obtain⟨us,hu1,ho,hu3⟩:=aO.grow.ex;have hlt:=aO.lt;obtain⟨iW,iY,hz0,hz1,hz2⟩:=aW eU;refine wp_append_lies _ _ _ 22 rfl (N+1) 24 iW (.agg #[.int .i64 0,.string ⟨#[]⟩,.int .i64 0,.slice none 0 0]) 4 56 Tryz.underlying22 iY hz0 hz1 hz2 rfl (by decide) row acc.length (us.flatMap fun u=>u.cells.toList) y0 ho ⟨gg,0,none⟩ 1 1 v0.cells.toList y1 (by rw [Array.length_toList,fB hx]) ?_ (by obtain⟨a,b,c,d,e,e2,p1,p2,p3,p4⟩:=bD hx;rw [e2];intro q hq;simp at hq;rcases hq with rfl|rfl|rfl|rfl<;>assumption) (by decide) (by unfold maxLen;omega) (by omega) (by omega) u.heap.size rfl ?_
      ·intro j q hj;have e:(⟨gg,0,none⟩:Addr).add j=⟨gg,j,none⟩:=(by unfold Addr.add;split<;>simp_all);rw [e,hgb.cell];simpa using hj
      ·intro g9 c9 w9 ju iZ kU uI
       exact hK'.out _ _ _ rfl trivial (push_append hF hu1 hu3 ju iZ kU)
     ·have HF:=Z_ hF;clear hd hm hb hF;go_simp;exact hK'.out _ _ _ rfl trivial ⟨rfl,HF.out⟩
     ·obtain⟨v0,v1,v2,rfl⟩:=zF hm
      have y0:x 63=.pointer (some ⟨N,3,none⟩):=(D_ hd 6 :);have y1:x 62=v2:=((D_ hd 5) 62 (by kernel_rfl) :);have hF2:=hF;obtain⟨xn,ln,hT1,aO,gg,cc,rfl⟩:=hF2;have hc:=aO.nd.cell 3;have hf:=aO.nd.frozen 3;have hl:=aO.lt;simp at hc
      have HF:=Z_ hF;clear hd hm hb hF aO hT1;go_simp;exact hK'.out _ _ undef (by simp only [y0,y1];rfl) trivial (dV HF.out)
    case find=>
     intro x vs w9 hl hF hk;obtain⟨v0,v1,v2,v3,rfl⟩:=zG hl
     obtain⟨xn,ln,hT1,jV⟩:=hF;clear hk hl;replace HT:=Z_ (Out.aG HT.out hT1.out);replace HB:=Z_ jV;replace aA:=Z_ HB.out.at;clear hT1 jV;obtain⟨ra,rn,rc,hrow⟩:=HB.out.slice3
     first|subst hrow|clear hrow
     have c0:=HB.out.nd.cell 0;have c1:=HB.out.nd.cell 1;have c2:=HB.out.nd.cell 2;have c3:=HB.out.nd.cell 3;have r0:=HB.out.res.cell;have rf:=HB.out.res.frozen;have rl:=HB.out.res.lt;unfold bK at r0;simp at c0 c1 c2 c3
     go_wp2_with fail
     refine bG rfl rfl rfl ((((HB.out.res.set 0 _).set 1 _).set 2 _).set 3 _) Tryz.underlying24 rfl (by kernel_rfl) ?_
     exact HB.out.ret (by have:=mM.out;omega) (HT.out.symm) _ _ _ _
   | true=>
    replace hP:bz W u7 S E E_.tail:=by simpa using hP
    have HT0:=HT.out;clear HT;simp only [↓reduceIte] at HT0;have HT:=Z_ HT0;clear HT0;replace HB:=Z_ (HB.out.call hC hP (by have:=gu.out rfl;omega));replace aA:=Z_ HB.out.at;clear hC hP HH gu;go_upto_region 10 with (fail)
    refine aj [3,4,5,6,8] (fun i v _=>v=([.pointer (some ⟨N,2,none⟩),.int .i64 (dR+bc),.pointer (some ⟨S,0,none⟩),undef,undef,undef,undef,.pointer (some ⟨N,2,none⟩),undef]:List Value).getD i undef) (Aq W w S E A N E_.tail 4 s (dR+bc) row acc [fun b=>4*b,fun b=>4+4*b,fun b=>dR+bc+(4+4*b)]) (fun _ _=>True) (frame:=?NU) (fun x=>?zM) mixed (by kernel_rfl) (by kernel_rfl) (fun _ _ _ _ h _=>h) ?NV ?NW ?fine
    case zM=>
     simp only [chain.aN,chain.fill,chain.bf,chain.aY,jW,jX,jY,jZ,kz,kC,kD,kE,kF];exact rfl
    case NV=>exact HB.out.extend (aB.refl _ _).drew
    case NW=>
     iterate 9 (refine ak.cons (fun x vs u hF hm hb hd K' hK'=>?_) ?_;rotate_left)
     exact ak.nil
     ·have HF:=Z_ hF;clear hd hm hb hF;go_simp;exact hK'.out _ _ _ rfl trivial ⟨rfl,HF.out⟩
     ·have y0:x 49=.pointer (some ⟨N,2,none⟩):=(D_ hd 0 :);have hc:=hF.cell (by have:=hb 3 _ (by decide) rfl (by kernel_rfl);simp only [List.length_cons,List.length_nil];omega);have HF:=Z_ hF;clear hd hm hb hF;go_simp;exact hK'.out _ _ _ (by simp only [y0];rfl) trivial ⟨rfl,HF.out⟩
     ·have HF:=Z_ hF;clear hd hm hb hF;go_simp;exact hK'.out _ _ _ rfl trivial ⟨rfl,HF.out⟩
     ·have y0:x 51=.pointer (some ⟨S,0,none⟩):=(D_ hd 2 :);obtain rfl:=kS hm;have HF:=Z_ (show iU _ _ _ _ _ _ _ _ _ _ _ _ _ _ from hF);clear hd hm hb hF;have jM:=Z_ (dF HF.out.pr);go_simp;refine jM.out.mono ?_
      rintro e u2 hr;obtain⟨hC,⟨lb,hp,rfl⟩|⟨sn,lx,v,hp,rfl,⟨rfl,hb0,hb1⟩,hP⟩⟩:=hr.cases (je _)
      ·have HE:=Z_ (Out.aF HT.out hp)
       have HC:=Z_ (HF.out.aK.then hC);clear hr hp hC hK' jM;go_wp2_with fail
       exact⟨rfl,eC.fails HC.out HE.out⟩
      ·exact hK'.out _ _ _ (by simp only [y0];rfl) trivial (zf HF.out hC hp hb0 hb1 hP)
     ·obtain⟨vb,rfl⟩:∃ vb,vs=[vb]:=by match vs,hm 1 (by kernel_rfl) with|[vb],_=>exact⟨_,rfl⟩
      have hcl:∃ b,vb=.int .i64 b∧0≤b∧b≤1:=by obtain⟨b,l',_,e,h0,h1,hs,_⟩:=hF;exact⟨b,e,h0,h1⟩
      obtain⟨b,rfl,hb0,hb1⟩:=hcl;have y0:x 52=.int .i64 (b):=((D_ hd 3) 52 (by kernel_rfl) :);obtain⟨hw8,Ud⟩:=oH (n:=4*b) (by have:=Dn.out;have:=Vl.out;omega) (by have:=Dn.out;have:=Vl.out;omega);have HF:=Z_ hF;clear hd hm hb hF;go_simp;exact hK'.out _ _ _ (by simp only [y0];rfl) trivial (by first|exact tC (r:=[]) HF.out (by simp) rfl)
     ·obtain⟨vb,v0,rfl⟩:∃ vb v0,vs=[vb,v0]:=by match vs,hm 2 (by kernel_rfl) with|[vb,v0],_=>exact⟨_,_,rfl⟩
      have hcl:∃ b,vb=.int .i64 b∧0≤b∧b≤1∧v0=.int .i64 (4*b):=by obtain⟨b,l',_,e,h0,h1,hs,_⟩:=hF;exact⟨b,e,h0,h1,by have:=hs 0 (by simp) (by simp);simpa using this⟩
      obtain⟨b,rfl,hb0,hb1,rfl⟩:=hcl;have y0:x 53=.int .i64 (4*b):=((D_ hd 4) 53 (by kernel_rfl) :);obtain⟨hw8,Ud⟩:=oH (n:=4+4*b) (by have:=Dn.out;have:=Vl.out;omega) (by have:=Dn.out;have:=Vl.out;omega);have HF:=Z_ hF;clear hd hm hb hF;go_simp;exact hK'.out _ _ _ (by simp only [y0];rfl) trivial (by first|exact tC (r:=[.int .i64 (4*b)]) HF.out (by simp) rfl)
     ·obtain⟨vb,v0,v1,rfl⟩:∃ vb v0 v1,vs=[vb,v0,v1]:=by match vs,hm 3 (by kernel_rfl) with|[vb,v0,v1],_=>exact⟨_,_,_,rfl⟩
      have hcl:∃ b,vb=.int .i64 b∧0≤b∧b≤1∧v0=.int .i64 (4*b)∧v1=.int .i64 (4+4*b):=by obtain⟨b,l',_,e,h0,h1,hs,_⟩:=hF;exact⟨b,e,h0,h1,by have:=hs 0 (by simp) (by simp);simpa using this,by have:=hs 1 (by simp) (by simp);simpa using this⟩
      obtain⟨b,rfl,hb0,hb1,rfl,rfl⟩:=hcl;have y0:x 54=.int .i64 (4+4*b):=((D_ hd 5) 54 (by kernel_rfl) :);have y1:x 50=.int .i64 (dR+bc):=(D_ hd 1 :);obtain⟨hw8,Ud⟩:=oH (n:=dR+bc+(4+4*b)) (by have:=Dn.out;have:=Vl.out;omega) (by have:=Dn.out;have:=Vl.out;omega);have HF:=Z_ hF;clear hd hm hb hF;go_simp;exact hK'.out _ _ _ (by simp only [y0,y1];rfl) trivial (by first|exact tC (r:=[.int .i64 (4*b),.int .i64 (4+4*b)]) HF.out (by simp) rfl)
     ·have HF:=Z_ hF;clear hd hm hb hF;go_simp;exact hK'.out _ _ _ rfl trivial ⟨rfl,HF.out⟩
     ·obtain⟨vb,v0,v1,v2,rfl⟩:∃ vb v0 v1 v2,vs=[vb,v0,v1,v2]:=by match vs,hm 4 (by kernel_rfl) with|[vb,v0,v1,v2],_=>exact⟨_,_,_,_,rfl⟩
      have hcl:∃ b,vb=.int .i64 b∧0≤b∧b≤1∧v0=.int .i64 (4*b)∧v1=.int .i64 (4+4*b)∧v2=.int .i64 (dR+bc+(4+4*b)):=by obtain⟨b,l',_,e,h0,h1,hs,_⟩:=hF;exact⟨b,e,h0,h1,by have:=hs 0 (by simp) (by simp);simpa using this,by have:=hs 1 (by simp) (by simp);simpa using this,by have:=hs 2 (by simp) (by simp);simpa using this⟩
      obtain⟨b,rfl,hb0,hb1,rfl,rfl,rfl⟩:=hcl;have y0:x 56=.pointer (some ⟨N,2,none⟩):=(D_ hd 7 :);have y1:x 55=.int .i64 (dR+bc+(4+4*b)):=((D_ hd 6) 55 (by kernel_rfl) :);have aO:∃ l',iU W w u S E A N l' 4 s (dR+bc) row row acc:=by obtain⟨b',l',_,_,_,_,_,h⟩:=hF;exact⟨l',h⟩
      obtain⟨l',aO⟩:=aO;have hc:=aO.nd.cell 2;have hf:=aO.nd.frozen 2;have hl:=aO.lt;simp at hc
      clear aO;have HF:=Z_ hF;clear hd hm hb hF;go_simp;exact hK'.out _ _ undef (by simp only [y0,y1];rfl) trivial (zg (r:=[.int .i64 (4*b),.int .i64 (4+4*b),.int .i64 (dR+bc+(4+4*b))]) (z:=undef) HF.out (by simp) rfl)
    case fine=>
     intro x vs w9 hl hF hk;obtain⟨vb,v0,v1,v2,vz,rfl⟩:∃ vb v0 v1 v2 vz,vs=[vb,v0,v1,v2,vz]:=by match vs,hl with|[vb,v0,v1,v2,vz],_=>exact⟨_,_,_,_,_,rfl⟩
     obtain⟨be,lne,hT1,-,hb0,hb1,-,jV⟩:=hF;replace jV:iU W w w9 S E A N lne 4 s (dR+bc+(4+4*be)) row row acc:=jV;clear hk hl;replace HT:=Z_ (Out.aG HT.out hT1.out);replace HB:=Z_ jV;replace aA:=Z_ HB.out.at;clear hT1 jV hb0 hb1;go_upto_region 11 with (fail)
     refine aj [3,4,5,7] (fun i v _=>v=([.pointer (some ⟨N,3,none⟩),row,.pointer (some ⟨S,0,none⟩),undef,undef,undef,.pointer (some ⟨N,3,none⟩),undef]:List Value).getD i undef) (fJ W w S E A N lne 4 s (dR+bc+(4+4*be)) row acc (bJ mm .block lne)) (fun _ _=>True) (frame:=?VL) (fun x=>?JI) mixed (by kernel_rfl) (by kernel_rfl) (fun _ _ _ _ h _=>h) ?VM ?VO ?JJ
     case JI=>
      simp only [chain.aN,chain.fill,chain.bf,chain.aY,jW,jX,jY,jZ,kz,kC,kD,kE,kF];exact rfl
     case VM=>exact HB.out.extend (aB.refl _ _).drew
     case VO=>
      iterate 8 (refine ak.cons (fun x vs u hF hm hb hd K' hK'=>?_) ?_;rotate_left)
      exact ak.nil
      ·have HF:=Z_ hF;clear hd hm hb hF;go_simp;exact hK'.out _ _ _ rfl trivial ⟨rfl,HF.out⟩
      ·have y0:x 57=.pointer (some ⟨N,3,none⟩):=(D_ hd 0 :);have hc:=hF.cell (by have:=hb 2 _ (by decide) rfl (by kernel_rfl);omega);have HF:=Z_ hF;clear hd hm hb hF;go_simp;exact hK'.out _ _ _ (by simp only [y0];rfl) trivial ⟨rfl,HF.out⟩
      ·have HF:=Z_ hF;clear hd hm hb hF;go_simp;exact hK'.out _ _ _ rfl trivial ⟨rfl,HF.out⟩
      ·have y0:x 59=.pointer (some ⟨S,0,none⟩):=(D_ hd 2 :);obtain rfl:=kS hm;have HF:=Z_ (show iU _ _ _ _ _ _ _ _ _ _ _ _ _ _ from hF);clear hd hm hb hF;have jM:=Z_ (ih mm hmm .block _ _ HF.out.pr HM.out rfl trivial (Out.bh HT.out h_.out));go_simp;refine jM.out.mono ?_
       rintro e u2 hr;obtain⟨hC,⟨lb,hp,rfl⟩|⟨xn,ln,v,hp,rfl,hv,hP⟩⟩:=hr.cases (Out.bh HT.out h_.out)
       ·have HE:=Z_ (Out.aF HT.out hp)
        have HC:=Z_ (HF.out.aK.then hC);clear hr hp hC hK' jM;go_wp2_with fail
        exact⟨rfl,eC.fails HC.out HE.out⟩
       ·exact hK'.out _ _ _ (by simp only [y0];rfl) trivial (fQ HF.out hC hp hv hP (bF.dO _ _ _ _ _ hp))
      ·obtain⟨v0,rfl⟩:=mD hm
       have y0:x 60=v0:=((D_ hd 3) 60 (by kernel_rfl) :);have hcl:∃ a b c d,v0=.agg #[a,b,c,d]:=by obtain⟨xn,ln,_,_,_,hx⟩:=hF;obtain⟨a,b,c,d,h,_⟩:=bD hx;exact⟨a,b,c,d,h⟩
       obtain⟨a0,b0,c0,d0,rfl⟩:=hcl;have HF:=Z_ hF;clear hd hm hb hF;go_simp;exact hK'.out _ _ _ (by simp only [y0];rfl) trivial (dU HF.out rfl)
      ·obtain⟨v0,v1,rfl⟩:=tN hm
       have y0:x 58=row:=(D_ hd 1 :);have y1:x 61=v1:=((D_ hd 4) 61 (by kernel_rfl) :);have hF2:=hF;obtain⟨xn,ln,hT1,aO,hfew,hx,gg,rfl,hgb,hgr⟩:=hF2;obtain⟨us,hu1,ho,hu3⟩:=aO.grow.ex;have hlt:=aO.lt;obtain⟨iW,iY,hz0,hz1,hz2⟩:=aW eU;refine wp_append_lies _ _ _ 22 rfl (N+1) 24 iW (.agg #[.int .i64 0,.string ⟨#[]⟩,.int .i64 0,.slice none 0 0]) 4 56 Tryz.underlying22 iY hz0 hz1 hz2 rfl (by decide) row acc.length (us.flatMap fun u=>u.cells.toList) y0 ho ⟨gg,0,none⟩ 1 1 v0.cells.toList y1 (by rw [Array.length_toList,fB hx]) ?_ (by obtain⟨a,b,c,d,e,e2,p1,p2,p3,p4⟩:=bD hx;rw [e2];intro q hq;simp at hq;rcases hq with rfl|rfl|rfl|rfl<;>assumption) (by decide) (by unfold maxLen;omega) (by omega) (by omega) u.heap.size rfl ?_
       ·intro j q hj;have e:(⟨gg,0,none⟩:Addr).add j=⟨gg,j,none⟩:=(by unfold Addr.add;split<;>simp_all);rw [e,hgb.cell];simpa using hj
       ·intro g9 c9 w9 ju iZ kU uI
        exact hK'.out _ _ _ rfl trivial (push_append hF hu1 hu3 ju iZ kU)
      ·have HF:=Z_ hF;clear hd hm hb hF;go_simp;exact hK'.out _ _ _ rfl trivial ⟨rfl,HF.out⟩
      ·obtain⟨v0,v1,v2,rfl⟩:=zF hm
       have y0:x 63=.pointer (some ⟨N,3,none⟩):=(D_ hd 6 :);have y1:x 62=v2:=((D_ hd 5) 62 (by kernel_rfl) :);have hF2:=hF;obtain⟨xn,ln,hT1,aO,gg,cc,rfl⟩:=hF2;have hc:=aO.nd.cell 3;have hf:=aO.nd.frozen 3;have hl:=aO.lt;simp at hc
       have HF:=Z_ hF;clear hd hm hb hF aO hT1;go_simp;exact hK'.out _ _ undef (by simp only [y0,y1];rfl) trivial (dV HF.out)
     case JJ=>
      intro x vs w9 hl hF hk;obtain⟨v0,v1,v2,v3,rfl⟩:=zG hl
      obtain⟨xn,ln,hT1,jV⟩:=hF;clear hk hl;replace HT:=Z_ (Out.aG HT.out hT1.out);replace HB:=Z_ jV;replace aA:=Z_ HB.out.at;clear hT1 jV;obtain⟨ra,rn,rc,hrow⟩:=HB.out.slice3
      first|subst hrow|clear hrow
      have c0:=HB.out.nd.cell 0;have c1:=HB.out.nd.cell 1;have c2:=HB.out.nd.cell 2;have c3:=HB.out.nd.cell 3;have r0:=HB.out.res.cell;have rf:=HB.out.res.frozen;have rl:=HB.out.res.lt;unfold bK at r0;simp at c0 c1 c2 c3
      go_wp2_with fail
      refine bG rfl rfl rfl ((((HB.out.res.set 0 _).set 1 _).set 2 _).set 3 _) Tryz.underlying24 rfl (by kernel_rfl) ?_
      exact HB.out.ret (by have:=mM.out;omega) (HT.out.symm) _ _ _ _
end bu
end Go.Proofs.YtpcihajmcejliacGreatDoor
