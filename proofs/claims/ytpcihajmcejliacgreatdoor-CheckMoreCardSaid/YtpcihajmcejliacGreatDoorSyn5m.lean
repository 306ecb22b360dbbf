/- The walk of the program's parser: calls. The walk of the program's parser: what binds. -/
import Derived.Deep.CutBlock
import Derived.Deep.DeepCutAuto
import Derived.Test.YtpcihajmcejliacGreatDoorSyn3m
namespace Go.Proofs.YtpcihajmcejliacGreatDoor
open Go.RowKit
namespace bn
set_option maxRecDepth 100000 in
set_option maxHeartbeats 4000000 in
theorem uN {n:Nat} (ih:∀ m,m≤n→Good m) {W w:World} {S E:Nat} {l:List Tk} {s:ByteArray} (h:bu W w S E l) (hm:dw W) (hs:s.size≤7000) (hne:bJ (n+1) (.call s) l≠.out) :
  Calls Tryz.prog 332 #[.pointer (some ⟨S,0,none⟩),.string s] w (dZ (VN w.heap.size) W w S E (bJ (n+1) (.call s) l)):=by
 obtain⟨T,hT⟩:∃ T,bJ (n+1) (.call s) l=T:=⟨_,rfl⟩;rw [hT] at hne ⊢;simp only [bJ] at hT;have HT:=Z_ hT;have ig:=Z_ hne;have HM:=Z_ hm;have aA:Hid (At W w (w.alloc (.cells #[.int .i64 0,.string ⟨#[]⟩,.int .i64 0,.slice none 0 0] 24)) S E w.heap.size l):=Z_ (At.start h);obtain⟨A,hA⟩:∃ A,w.heap.size=A:=⟨_,rfl⟩;rw [hA] at aA;have MW:S<A:=by have:=h.lt;omega
 clear h hm hne hT;go_enter Tryz.func332,Tryz.ntmps332
 go_upto_region 1 with (fail)
 generalize w.alloc (.cells #[.int .i64 0,.string ⟨#[]⟩,.int .i64 0,.slice none 0 0] 24)=u0 at *;have HN:=Z_ (cg (aA.out.pr.alloc (.cells #[.string iz] 9)) u0.heap.size 1 iz ((aH.made u0 #[.string iz] 9).cell 0));have eM:=(aB.refl (fun _=>False) u0).alloc (.cells #[.string iz] 9);replace aA:=Z_ (aA.out.extend eM);clear eM;go_wp2_with fail
 refine HN.out.mono ?_
 rintro e u1 hr;obtain⟨hC,⟨lb,hp,rfl⟩|⟨_,l1,_,hp,rfl,rfl,hP⟩⟩:=hr.cases (dh _ _)
 ·have HF:=Z_ (Out.aF HT.out hp)
  have HC:=Z_ (aA.out.aO.then hC);clear hr hp hC;go_wp2_with fail
  exact⟨rfl,dZ.fails HC.out HF.out⟩
 replace HT:=Z_ (Out.aG HT.out hp);replace aA:=Z_ (aA.out.call hC hP);clear hr hp hC hP HN;go_wp2_with fail
 refine(dG _ _ _ _ _ _ _).mono ?_
 rintro e u2 ⟨rfl,hE⟩;replace aA:=Z_ (aA.out.extend hE);have HB:=Z_ ((aA.out.alloc (.cells #[.int .i64 18,.string s,.int .i64 0,.slice none 0 0] 24)).Sz (aH.made u2 _ _) aA.out.lt);obtain⟨N,hN⟩:∃ N,u2.heap.size=N:=⟨_,rfl⟩;rw [hN] at HB;clear hE aA;go_upto_block 0 with (fail)
 generalize u2.alloc (.cells #[.int .i64 18,.string s,.int .i64 0,.slice none 0 0] 24)=v0 at *;go_cut [] (fun w'=>∃ (acc:List Nd) (row:Value) (l2:List Tk),Hid ((dU dI l2).bind (fun _ l=>.got (.mk 18 s 0 acc) l)=T)∧Hid (iT W w w' S E A N l2 18 s 0 row row acc))
 case first=>
  go_wp2_with fail
  go_loopg [] n (fun k wr=>∃ l2 acc row,k≤n∧Hid (bJ k (.args s acc) l2=T)∧Hid (iT W w wr S E A N l2 18 s 0 row row acc))
  case atStart=>exact⟨l1,[],.slice none 0 0,Nat.le_refl _,HT,HB⟩
  clear HT HB
  case round=>
   obtain⟨lr,acc,row,hkn,HT,HB⟩:=hrel;cases gk with
   | zero=>exact absurd HT.out.symm ig.out
   | succ m=>
    have HT0:=HT.out;clear HT;simp only [bJ] at HT0;have HT:=Z_ HT0;clear HT0;have aA:=Z_ HB.out.at;obtain⟨ra,rc,rfl⟩:=HB.out.slice
    have HH:=Z_ (sW (aA.out.pr.alloc (.cells #[.string dI] 9)) wr.heap.size [dI] 1 1 rfl (by decide) (fun j hj=>by
     obtain rfl:j=0:=by simpa using hj
     exact(aH.made wr #[.string dI] 9).cell 0) (by simp))
    have eM:=(aB.refl (fun _=>False) wr).alloc (.cells #[.string dI] 9);replace HB:=Z_ (HB.out.extend eM);replace aA:=Z_ HB.out.at;clear eM;generalize fO lr [dI]=R at *;go_wp2_with fail
    refine HH.out.mono ?_
    rintro e u3 ⟨rfl,hE⟩;replace HB:=Z_ (HB.out.extend hE);replace aA:=Z_ HB.out.at;clear hE HH;cases R with
    | false=>
     have HT0:=HT.out;clear HT;simp only [Bool.false_eq_true,false_and,↓reduceIte] at HT0;have HT:=Z_ HT0;clear HT0;go_upto_region 4 with (fail)
     refine ah [3,4,5,7] (fun i v _=>v=([.pointer (some ⟨N,3,none⟩),(.slice ra acc.length rc),.pointer (some ⟨S,0,none⟩),undef,undef,undef,.pointer (some ⟨N,3,none⟩),undef]:List Value).getD i undef) (fK W w S E A N lr 18 s 0 (.slice ra acc.length rc) acc (bJ m .expr lr)) (fun _ _=>True) (frame:=?Bd) (fun x=>?o7) mixed (by kernel_rfl) (by kernel_rfl) (fun _ _ _ _ h _=>h) ?Be ?Bf ?o8
     case o7=>
      simp only [chain.aK,chain.fill,chain.bf,chain.aW,jJ,jK,jL,jM,jO,jP,jQ,jR,jS];exact rfl
     case Be=>exact HB.out.extend (aB.refl _ _).drew
     case Bf=>
      iterate 8 (refine ai.cons (fun x vs u hF hm hb hd K' hK'=>?_) ?_;rotate_left)
      exact ai.nil
      ·have HF:=Z_ hF;clear hd hm hb hF;go_simp;exact hK'.out _ _ _ rfl trivial ⟨rfl,HF.out⟩
      ·have y0:x 21=.pointer (some ⟨N,3,none⟩):=(D_ hd 0 :);have hc:=hF.cell (by have:=hb 2 _ (by decide) rfl (by kernel_rfl);omega);have HF:=Z_ hF;clear hd hm hb hF;go_simp;exact hK'.out _ _ _ (by simp only [y0];rfl) trivial ⟨rfl,HF.out⟩
      ·have HF:=Z_ hF;clear hd hm hb hF;go_simp;exact hK'.out _ _ _ rfl trivial ⟨rfl,HF.out⟩
      ·have y0:x 23=.pointer (some ⟨S,0,none⟩):=(D_ hd 2 :);obtain rfl:=kF hm;have HF:=Z_ (show iT _ _ _ _ _ _ _ _ _ _ _ _ _ _ from hF);clear hd hm hb hF;have jv:=Z_ (ih m (by omega) .expr _ _ HF.out.pr HM.out rfl trivial (Out.bg HT.out ig.out));go_simp;refine jv.out.mono ?_
       rintro e u2 hr;obtain⟨hC,⟨lb,hp,rfl⟩|⟨xn,ln,v,hp,rfl,hv,hP⟩⟩:=hr.cases (Out.bg HT.out ig.out)
       ·have HE:=Z_ (Out.aF HT.out hp)
        have HC:=Z_ (HF.out.aO.then hC);clear hr hp hC hK' jv;go_wp2_with fail
        exact⟨rfl,dZ.fails HC.out HE.out⟩
       ·exact hK'.out _ _ _ (by simp only [y0];rfl) trivial (f_ HF.out hC hp hv hP (bC.dJ _ _ _ _ _ hp))
      ·obtain⟨v0,rfl⟩:=lK hm
       have y0:x 24=v0:=((D_ hd 3) 24 (by kernel_rfl) :);have hcl:∃ a b c d,v0=.agg #[a,b,c,d]:=by obtain⟨xn,ln,_,_,_,hx⟩:=hF;obtain⟨a,b,c,d,h,_⟩:=bz hx;exact⟨a,b,c,d,h⟩
       obtain⟨a0,b0,c0,d0,rfl⟩:=hcl;have HF:=Z_ hF;clear hd hm hb hF;go_simp;exact hK'.out _ _ _ (by simp only [y0];rfl) trivial (dO HF.out rfl)
      ·obtain⟨v0,v1,rfl⟩:=qX hm
       have y0:x 22=(.slice ra acc.length rc):=(D_ hd 1 :);have y1:x 25=v1:=((D_ hd 4) 25 (by kernel_rfl) :);have hF2:=hF;obtain⟨xn,ln,hT1,aP,hfew,hx,gg,rfl,hgb,hgr⟩:=hF2;obtain⟨us,hu1,ho,hu3⟩:=aP.grow.ex;have hlt:=aP.lt;obtain⟨jc,jd,hz0,hz1,hz2⟩:=aX eP;refine wp_append_lies _ _ _ 22 rfl (N+1) 24 jc (.agg #[.int .i64 0,.string ⟨#[]⟩,.int .i64 0,.slice none 0 0]) 4 56 Tryz.underlying22 jd hz0 hz1 hz2 rfl (by decide) (.slice ra acc.length rc) acc.length (us.flatMap fun u=>u.cells.toList) y0 ho ⟨gg,0,none⟩ 1 1 v0.cells.toList y1 (by rw [Array.length_toList,fA hx]) ?_ (by obtain⟨a,b,c,d,e,e2,p1,p2,p3,p4⟩:=bz hx;rw [e2];intro q hq;simp at hq;rcases hq with rfl|rfl|rfl|rfl<;>assumption) (by decide) (by unfold maxLen;omega) (by omega) (by omega) u.heap.size rfl ?_
       ·intro j q hj;have e:(⟨gg,0,none⟩:Addr).add j=⟨gg,j,none⟩:=(by unfold Addr.add;split<;>simp_all);rw [e,hgb.cell];simpa using hj
       ·intro g9 c9 w9 iQ iJ jU qF
        exact hK'.out _ _ _ rfl trivial (push_append hF hu1 hu3 iQ iJ jU)
      ·have HF:=Z_ hF;clear hd hm hb hF;go_simp;exact hK'.out _ _ _ rfl trivial ⟨rfl,HF.out⟩
      ·obtain⟨v0,v1,v2,rfl⟩:=xy hm
       have y0:x 27=.pointer (some ⟨N,3,none⟩):=(D_ hd 6 :);have y1:x 26=v2:=((D_ hd 5) 26 (by kernel_rfl) :);have hF2:=hF;obtain⟨xn,ln,hT1,aP,gg,cc,rfl⟩:=hF2;have hc:=aP.nd.cell 3;have hf:=aP.nd.frozen 3;have hl:=aP.lt;simp at hc
       have HF:=Z_ hF;clear hd hm hb hF aP hT1;go_simp;exact hK'.out _ _ undef (by simp only [y0,y1];rfl) trivial (dP HF.out)
     case o8=>
      intro x vs w9 hl hF hk;obtain⟨v0,v1,v2,v3,rfl⟩:=xA hl
      obtain⟨xn,ln,hT1,jG⟩:=hF;clear hk hl;replace HT:=Z_ (Out.aG HT.out hT1.out);replace HB:=Z_ jG;replace aA:=Z_ HB.out.at;clear hT1 jG;have HH:=Z_ (cZ aA.out.pr jE);have gI:=Z_ (fun (h:fO ln [jE]=true)=>bC.aU h);generalize fO ln [jE]=R at *;go_wp2_with fail
      refine HH.out.mono ?_
      rintro e u4 ⟨rfl,hC,hP⟩;cases R with
      | false=>
       replace hP:bu W u4 S E ln:=by simpa using hP
       have HT0:=HT.out;clear HT;simp only [Bool.false_eq_true,↓reduceIte] at HT0;have HT:=Z_ HT0;clear HT0;replace HB:=Z_ (HB.out.call hC hP (Nat.le_refl _));replace aA:=Z_ HB.out.at;clear hC hP HH gI;go_wp2_with fail
       go_meet
       exact⟨acc ++ [xn],v2,ln,HT,HB⟩
      | true=>
       replace hP:bu W u4 S E ln.tail:=by simpa using hP
       have HT0:=HT.out;clear HT;simp only [↓reduceIte] at HT0;have HT:=Z_ HT0;clear HT0;replace HB:=Z_ (HB.out.call hC hP (by have:=gI.out rfl;omega));replace aA:=Z_ HB.out.at;clear hC hP HH gI;go_wp2_with fail
       go_roundg m
       case rel=>exact⟨ln.tail,acc ++ [xn],v2,by omega,HT,HB⟩
       case measure=>omega
    | true=>
     have c3:=HB.out.nd.cell 3;simp at c3
     by_cases hl0:acc.length=0
     ·have HT0:=HT.out
      clear HT;simp only [hl0,and_self,↓reduceIte] at HT0;have HT:=Z_ HT0;clear HT0;have HB2:Hid (∃ row,iT W w u3 S E A N lr 18 s 0 row row acc):=Z_ ⟨_,HB.out⟩;clear HB aA;rw [hl0] at c3;go_wp2_with fail
      go_meet
      obtain⟨row,HB⟩:=HB2.out;exact⟨acc,row,lr,HT,Z_ HB⟩
     ·have HT0:=HT.out
      clear HT;simp only [hl0,and_false,↓reduceIte] at HT0;have HT:=Z_ HT0;clear HT0;have hl1:0<acc.length:=by omega
      go_upto_region 4 with (fail)
      refine ah [3,4,5,7] (fun i v _=>v=([.pointer (some ⟨N,3,none⟩),(.slice ra acc.length rc),.pointer (some ⟨S,0,none⟩),undef,undef,undef,.pointer (some ⟨N,3,none⟩),undef]:List Value).getD i undef) (fK W w S E A N lr 18 s 0 (.slice ra acc.length rc) acc (bJ m .expr lr)) (fun _ _=>True) (frame:=?Ah) (fun x=>?oQ) mixed (by kernel_rfl) (by kernel_rfl) (fun _ _ _ _ h _=>h) ?Ai ?Aj ?oU
      case oQ=>
       simp only [chain.aK,chain.fill,chain.bf,chain.aW,jJ,jK,jL,jM,jO,jP,jQ,jR,jS];exact rfl
      case Ai=>exact HB.out.extend (aB.refl _ _).drew
      case Aj=>
       iterate 8 (refine ai.cons (fun x vs u hF hm hb hd K' hK'=>?_) ?_;rotate_left)
       exact ai.nil
       ·have HF:=Z_ hF;clear hd hm hb hF;go_simp;exact hK'.out _ _ _ rfl trivial ⟨rfl,HF.out⟩
       ·have y0:x 21=.pointer (some ⟨N,3,none⟩):=(D_ hd 0 :);have hc:=hF.cell (by have:=hb 2 _ (by decide) rfl (by kernel_rfl);omega);have HF:=Z_ hF;clear hd hm hb hF;go_simp;exact hK'.out _ _ _ (by simp only [y0];rfl) trivial ⟨rfl,HF.out⟩
       ·have HF:=Z_ hF;clear hd hm hb hF;go_simp;exact hK'.out _ _ _ rfl trivial ⟨rfl,HF.out⟩
       ·have y0:x 23=.pointer (some ⟨S,0,none⟩):=(D_ hd 2 :);obtain rfl:=kF hm;have HF:=Z_ (show iT _ _ _ _ _ _ _ _ _ _ _ _ _ _ from hF);clear hd hm hb hF;have jv:=Z_ (ih m (by omega) .expr _ _ HF.out.pr HM.out rfl trivial (Out.bg HT.out ig.out));go_simp;refine jv.out.mono ?_
        rintro e u2 hr;obtain⟨hC,⟨lb,hp,rfl⟩|⟨xn,ln,v,hp,rfl,hv,hP⟩⟩:=hr.cases (Out.bg HT.out ig.out)
        ·have HE:=Z_ (Out.aF HT.out hp)
         have HC:=Z_ (HF.out.aO.then hC);clear hr hp hC hK' jv;go_wp2_with fail
         exact⟨rfl,dZ.fails HC.out HE.out⟩
        ·exact hK'.out _ _ _ (by simp only [y0];rfl) trivial (f_ HF.out hC hp hv hP (bC.dJ _ _ _ _ _ hp))
       ·obtain⟨v0,rfl⟩:=lK hm
        have y0:x 24=v0:=((D_ hd 3) 24 (by kernel_rfl) :);have hcl:∃ a b c d,v0=.agg #[a,b,c,d]:=by obtain⟨xn,ln,_,_,_,hx⟩:=hF;obtain⟨a,b,c,d,h,_⟩:=bz hx;exact⟨a,b,c,d,h⟩
        obtain⟨a0,b0,c0,d0,rfl⟩:=hcl;have HF:=Z_ hF;clear hd hm hb hF;go_simp;exact hK'.out _ _ _ (by simp only [y0];rfl) trivial (dO HF.out rfl)
       ·obtain⟨v0,v1,rfl⟩:=qX hm
        have y0:x 22=(.slice ra acc.length rc):=(D_ hd 1 :);have y1:x 25=v1:=((D_ hd 4) 25 (by kernel_rfl) :);have hF2:=hF;obtain⟨xn,ln,hT1,aP,hfew,hx,gg,rfl,hgb,hgr⟩:=hF2;obtain⟨us,hu1,ho,hu3⟩:=aP.grow.ex;have hlt:=aP.lt;obtain⟨jc,jd,hz0,hz1,hz2⟩:=aX eP;refine wp_append_lies _ _ _ 22 rfl (N+1) 24 jc (.agg #[.int .i64 0,.string ⟨#[]⟩,.int .i64 0,.slice none 0 0]) 4 56 Tryz.underlying22 jd hz0 hz1 hz2 rfl (by decide) (.slice ra acc.length rc) acc.length (us.flatMap fun u=>u.cells.toList) y0 ho ⟨gg,0,none⟩ 1 1 v0.cells.toList y1 (by rw [Array.length_toList,fA hx]) ?_ (by obtain⟨a,b,c,d,e,e2,p1,p2,p3,p4⟩:=bz hx;rw [e2];intro q hq;simp at hq;rcases hq with rfl|rfl|rfl|rfl<;>assumption) (by decide) (by unfold maxLen;omega) (by omega) (by omega) u.heap.size rfl ?_
        ·intro j q hj;have e:(⟨gg,0,none⟩:Addr).add j=⟨gg,j,none⟩:=(by unfold Addr.add;split<;>simp_all);rw [e,hgb.cell];simpa using hj
        ·intro g9 c9 w9 iQ iJ jU qF
         exact hK'.out _ _ _ rfl trivial (push_append hF hu1 hu3 iQ iJ jU)
       ·have HF:=Z_ hF;clear hd hm hb hF;go_simp;exact hK'.out _ _ _ rfl trivial ⟨rfl,HF.out⟩
       ·obtain⟨v0,v1,v2,rfl⟩:=xy hm
        have y0:x 27=.pointer (some ⟨N,3,none⟩):=(D_ hd 6 :);have y1:x 26=v2:=((D_ hd 5) 26 (by kernel_rfl) :);have hF2:=hF;obtain⟨xn,ln,hT1,aP,gg,cc,rfl⟩:=hF2;have hc:=aP.nd.cell 3;have hf:=aP.nd.frozen 3;have hl:=aP.lt;simp at hc
        have HF:=Z_ hF;clear hd hm hb hF aP hT1;go_simp;exact hK'.out _ _ undef (by simp only [y0,y1];rfl) trivial (dP HF.out)
      case oU=>
       intro x vs w9 hl hF hk;obtain⟨v0,v1,v2,v3,rfl⟩:=xA hl
       obtain⟨xn,ln,hT1,jG⟩:=hF;clear hk hl;replace HT:=Z_ (Out.aG HT.out hT1.out);replace HB:=Z_ jG;replace aA:=Z_ HB.out.at;clear hT1 jG;have HH:=Z_ (cZ aA.out.pr jE);have gI:=Z_ (fun (h:fO ln [jE]=true)=>bC.aU h);generalize fO ln [jE]=R at *;go_wp2_with fail
       refine HH.out.mono ?_
       rintro e u4 ⟨rfl,hC,hP⟩;cases R with
       | false=>
        replace hP:bu W u4 S E ln:=by simpa using hP
        have HT0:=HT.out;clear HT;simp only [Bool.false_eq_true,↓reduceIte] at HT0;have HT:=Z_ HT0;clear HT0;replace HB:=Z_ (HB.out.call hC hP (Nat.le_refl _));replace aA:=Z_ HB.out.at;clear hC hP HH gI;go_wp2_with fail
        go_meet
        exact⟨acc ++ [xn],v2,ln,HT,HB⟩
       | true=>
        replace hP:bu W u4 S E ln.tail:=by simpa using hP
        have HT0:=HT.out;clear HT;simp only [↓reduceIte] at HT0;have HT:=Z_ HT0;clear HT0;replace HB:=Z_ (HB.out.call hC hP (by have:=gI.out rfl;omega));replace aA:=Z_ HB.out.at;clear hC hP HH gI;go_wp2_with fail
        go_roundg m
        case rel=>exact⟨ln.tail,acc ++ [xn],v2,by omega,HT,HB⟩
        case measure=>omega
 case rest=>
  clear HT HB;obtain⟨acc,row,l2,HT,HB⟩:=hcut;have aA:=Z_ HB.out.at;generalize wc=u7 at *;have HN:=Z_ (cg (aA.out.pr.alloc (.cells #[.string dI] 9)) u7.heap.size 1 dI ((aH.made u7 #[.string dI] 9).cell 0));have eM:=(aB.refl (fun _=>False) u7).alloc (.cells #[.string dI] 9);replace HB:=Z_ (HB.out.extend eM);replace aA:=Z_ HB.out.at;clear eM;go_wp2_with fail
  refine HN.out.mono ?_
  rintro e u4 hr;obtain⟨hC,⟨lb,hp,rfl⟩|⟨_,l4,_,hp,rfl,rfl,hP⟩⟩:=hr.cases (dh _ _)
  ·have HF:=Z_ (Out.aF HT.out hp)
   have HC:=Z_ (aA.out.aO.then hC);clear hr hp hC;go_wp2_with fail
   exact⟨rfl,dZ.fails HC.out HF.out⟩
  replace HT:=Z_ (Out.aG HT.out hp);replace HB:=Z_ (HB.out.call hC hP (by have:=bC.aV hp;omega));replace aA:=Z_ HB.out.at;clear hr hp hC hP HN;obtain⟨ra,rn,rc,hrow⟩:=HB.out.slice3
  first|subst hrow|clear hrow
  have c0:=HB.out.nd.cell 0;have c1:=HB.out.nd.cell 1;have c2:=HB.out.nd.cell 2;have c3:=HB.out.nd.cell 3;have r0:=HB.out.res.cell;have rf:=HB.out.res.frozen;have rl:=HB.out.res.lt;unfold bQ at r0;simp at c0 c1 c2 c3
  go_wp2_with fail
  refine bD rfl rfl rfl ((((HB.out.res.set 0 _).set 1 _).set 2 _).set 3 _) Tryz.underlying24 rfl (by kernel_rfl) ?_
  exact HB.out.ret (by omega) (HT.out.symm) _ _ _ _
end bn
end Go.Proofs.YtpcihajmcejliacGreatDoor
namespace Go.Proofs.YtpcihajmcejliacGreatDoor
open Go.RowKit
namespace bn
def lH (W w0:World) (S E A B N:Nat) (l:List Tk) (x:Nd) (v:Value) (op:Int) (T:Out Nd):List Value→World→Prop
 | [],u=>At W w0 u S E A l∧Loc S B N u x v∧B≤u.heap.size
 | [z],u=>∃ y l',Hid (T=.got y l')∧At W w0 u S E A l'∧Loc S B N u x v∧B≤u.heap.size∧fE (hide (qp B N) u) y z
 | [_,s],u=>∃ y l',Hid (T=.got y l')∧At W w0 u S E A l'∧Loc S B N u x v∧B≤u.heap.size∧∃ g,s=.slice (some ⟨g,0,none⟩) 2 2∧fE (hide (qp B N) u) (.mk 19 aS op [x,y]) (.agg #[.int .i64 19,.string aS,.int .i64 op,.slice (some ⟨g,0,none⟩) 2 2])
 | [_,_,n],u=>∃ y l',Hid (T=.got y l')∧At W w0 u S E A l'∧Loc S B N u x v∧B≤u.heap.size∧∃ g,n=.agg #[.int .i64 19,.string aS,.int .i64 op,.slice (some ⟨g,0,none⟩) 2 2]∧fE (hide (qp B N) u) (.mk 19 aS op [x,y]) n
 | [_,_,n,_],u=>∃ y l',Hid (T=.got y l')∧At W w0 u S E A l'∧Loc S B N u (.mk 19 aS op [x,y]) n∧B≤u.heap.size
 | _,_=>False
theorem lH.cells {W w0 u:World} {S E A B N:Nat} {l:List Tk} {x:Nd} {v:Value} {op:Int} {T:Out Nd} {vs:List Value} (h:lH W w0 S E A B N l x v op T vs u) (hv:vs.length≤1):Loc S B N u x v:=by
 match vs,hv,h with
 | [],_,h=>exact h.2.1
 | [_],_,⟨_,_,_,_,h,_⟩=>exact h
theorem DF {W w0 u u2:World} {S E A B N:Nat} {l l':List Tk} {x y:Nd} {v z:Value} {op:Int} {T:Out Nd} (h:lH W w0 S E A B N l x v op T [] u) (hC:aB (fun i=>i=S) u u2) (hT:T=.got y l') (hV:VN u.heap.size y z u2) (hP:bu W u2 S E l'):lH W w0 S E A B N l x v op T [z] u2:=by
 obtain⟨h1,h2,h3⟩:=h;have h4:=h2.nd.lt;refine⟨y,l',Z_ hT,h1.call hC hP,h2.call hC,Nat.le_trans h3 hC.size,aJ (aZ (Nat.le_refl _) fun i hi hm=>?_) _ _ hV⟩
 simp only [below,qp,decide_eq_false_iff_not,Bool.or_eq_false_iff] at hm ⊢;exact⟨⟨by omega,by omega⟩,trivial⟩
theorem BU {W w0 u:World} {S E A B N:Nat} {l:List Tk} {x:Nd} {v z:Value} {op:Int} {T:Out Nd} (h:lH W w0 S E A B N l x v op T [z] u) {c:Array Value} (hc:v.cells++z.cells=c):lH W w0 S E A B N l x v op T [z,.slice (some ⟨u.heap.size,0,none⟩) 2 2] (u.alloc (.cells c 24)):=by
 obtain⟨y,l',hT,h1,h2,h3,h4⟩:=h;have hE:=(aB.refl (fun _=>False) u).alloc (.cells c 24);have h5:=h2.nd.lt;exact⟨y,l',hT,h1.extend hE,h2.extend hE,Nat.le_trans h3 hE.size,_,rfl,Nk h2.dat h4 (by simp [qp];omega) 19 op aS (by decide) hc⟩
theorem DG {W w0 u u2:World} {S E A B N:Nat} {l:List Tk} {x:Nd} {v z:Value} {op:Int} {T:Out Nd} {g:Nat} (h:lH W w0 S E A B N l x v op T [z,.slice (some ⟨g,0,none⟩) 2 2] u) (hE:Ext u u2):lH W w0 S E A B N l x v op T [z,.slice (some ⟨g,0,none⟩) 2 2,.agg #[.int .i64 19,.string aS,.int .i64 op,.slice (some ⟨g,0,none⟩) 2 2]] u2:=by
 obtain⟨y,l',hT,h1,h2,h3,g',e,h4⟩:=h;obtain rfl:g=g':=by simpa using e
 exact⟨y,l',hT,h1.extend hE,h2.extend hE,Nat.le_trans h3 hE.size,g,rfl,aJ (aC hE fun _ _ h=>h.elim) _ _ h4⟩
theorem BV {W w0 u:World} {S E A B N:Nat} {l:List Tk} {x:Nd} {v z s q:Value} {op:Int} {T:Out Nd} {a b c d:Value} (h:lH W w0 S E A B N l x v op T [z,s,.agg #[a,b,c,d]] u) (CN:A<N) :
  lH W w0 S E A B N l x v op T [z,s,.agg #[a,b,c,d],q] ((((u.setCell ⟨N,0,none⟩ a).setCell ⟨N,1,none⟩ b).setCell ⟨N,2,none⟩ c).setCell ⟨N,3,none⟩ d):=by
 obtain⟨y,l',hT,h1,h2,h3,g,e,h4⟩:=h;have hC:aB (fun i=>i=N) u ((((u.setCell ⟨N,0,none⟩ a).setCell ⟨N,1,none⟩ b).setCell ⟨N,2,none⟩ c).setCell ⟨N,3,none⟩ d):=ak (ak (ak (ak (aB.refl _ _) 0 a) 1 b) 2 c) 3 d;refine⟨y,l',hT,h1.far hC CN,⟨?_,aJ (aC hC fun i _ e=>by rw [e];simp [qp]) _ _ h4,h2.GZ,h2.hSN⟩,Nat.le_trans h3 hC.size⟩
 have hs:=fA h2.dat;have h5:=(((h2.nd.set 0 a).set 1 b).set 2 c).set 3 d
 have e:(((v.cells.setIfInBounds 0 a).setIfInBounds 1 b).setIfInBounds 2 c).setIfInBounds 3 d=(Value.agg #[a,b,c,d]).cells:=by
  obtain⟨a',b',c',d',-,e',-⟩:=bz h2.dat;rw [e'];rfl
 rw [e] at h5;exact h5
set_option maxRecDepth 100000 in
set_option maxHeartbeats 4000000 in
theorem Gy {n:Nat} (ih:∀ m,m≤n→Good m) {W w:World} {S E:Nat} {l:List Tk} {k:Nat} (h:bu W w S E l) (hm:dw W) (hk:k≤3) (hne:bJ (n+1) (.bound k) l≠.out) :
  Calls Tryz.prog 364 #[.pointer (some ⟨S,0,none⟩),.int .i64 (k:Nat)] w (dZ (VN w.heap.size) W w S E (bJ (n+1) (.bound k) l)):=by
 obtain⟨T,hT⟩:∃ T,bJ (n+1) (.bound k) l=T:=⟨_,rfl⟩;rw [hT] at hne ⊢;simp only [bJ] at hT;have HT:=Z_ hT;have ig:=Z_ hne;have HM:=Z_ hm;have aA:Hid (At W w (w.alloc (.cells #[.int .i64 0,.string ⟨#[]⟩,.int .i64 0,.slice none 0 0] 24)) S E w.heap.size l):=Z_ (At.start h);obtain⟨A,hA⟩:∃ A,w.heap.size=A:=⟨_,rfl⟩;rw [hA] at aA;have MW:S<A:=by have:=h.lt;omega
 clear h hm hne hT;go_enter Tryz.func364,Tryz.ntmps364
 go_upto_region 1 with (fail)
 generalize w.alloc (.cells #[.int .i64 0,.string ⟨#[]⟩,.int .i64 0,.slice none 0 0] 24)=u0 at *;by_cases hk2:2<k
 ·have HT0:=HT.out
  clear HT;simp only [hk2,↓reduceIte] at HT0;have HT:=Z_ HT0;clear HT0;obtain rfl:k=3:=by omega
  have iC:=aA.out.lt;obtain⟨B,hB⟩:∃ B,u0.heap.size=B:=⟨_,rfl⟩;rw [hB] at iC;have HN:=Z_ (ih n (Nat.le_refl _) (.unary) _ _ aA.out.pr HM.out rfl trivial (by rw [HT.out];exact ig.out));go_wp2_with fail
  refine HN.out.mono ?_
  rintro e u1 hr;obtain⟨hC,⟨lb,hp,rfl⟩|⟨x1,l1,v1,hp,rfl,hv,hP⟩⟩:=hr.cases (by rw [HT.out];exact ig.out)
  ·have HF:=Z_ (HT.out.symm.trans hp)
   have HC:=Z_ (aA.out.aO.then hC);clear hr hp hC;go_wp2_with fail
   exact⟨rfl,dZ.fails HC.out HF.out⟩
  replace HT:=Z_ (HT.out.symm.trans hp);replace aA:=Z_ (aA.out.call hC hP);obtain⟨ka1,Sm,Sr,Su,Sv,ca1,rfl⟩:=bU hv;have MX:=Z_ hv;have hsz1:u0.heap.size≤u1.heap.size:=hC.size;clear hr hp hC hP hv HN;rw [hB] at MX;have r0:=aA.out.res.cell;have rf:=aA.out.res.frozen;have rl:=aA.out.res.lt;unfold bQ at r0;go_wp2_with fail
  refine bD rfl rfl rfl ((((aA.out.res.set 0 _).set 1 _).set 2 _).set 3 _) Tryz.underlying24 rfl (by kernel_rfl) ?_
  exact eH aA.out (below B) (MX.out) (cE (by omega)) (fun i hi=>cE (by omega)) (HT.out)
 ·have HT0:=HT.out
  clear HT;simp only [hk2,↓reduceIte] at HT0;have HT:=Z_ HT0;clear HT0;have hk3:¬ ((k:Int) > 2):=by omega
  have hk4:¬ (2<(k:Int)):=by omega
  have hkw:IntKind.i64.wrap ((k:Int)+1)=((k+1:Nat):Int):=by rw [wrap_small _ (by omega) (by omega)];rfl
  have ab2:wrap64 ((k:Int)+1)=((k+1:Nat):Int):=by unfold wrap64;omega
  have iC:=aA.out.lt;obtain⟨B,hB⟩:∃ B,u0.heap.size=B:=⟨_,rfl⟩;rw [hB] at iC;have HN:=Z_ (ih n (Nat.le_refl _) (.bound (k+1)) _ _ aA.out.pr HM.out rfl (by omega:k+1≤3) (Out.bg HT.out ig.out));go_wp2_with fail
  refine HN.out.mono ?_
  rintro e u1 hr;obtain⟨hC,⟨lb,hp,rfl⟩|⟨x1,l1,v1,hp,rfl,hv,hP⟩⟩:=hr.cases (Out.bg HT.out ig.out)
  ·have HF:=Z_ (Out.aF HT.out hp)
   have HC:=Z_ (aA.out.aO.then hC);clear hr hp hC;go_wp2_with fail
   exact⟨rfl,dZ.fails HC.out HF.out⟩
  replace HT:=Z_ (Out.aG HT.out hp);replace aA:=Z_ (aA.out.call hC hP);obtain⟨ka1,Sm,Sr,Su,Sv,ca1,rfl⟩:=bU hv;have MX:=Z_ hv;have hsz1:u0.heap.size≤u1.heap.size:=hC.size;clear hr hp hC hP hv HN;rw [hB] at MX hsz1;have HL:=Z_ (Loc.start MX.out (by omega:S<B) hsz1 (c:=#[.int .i64 ka1,.string Sm,.int .i64 Sr,.slice Su Sv ca1]) rfl);replace aA:=Z_ (aA.out.alloc (.cells #[.int .i64 ka1,.string Sm,.int .i64 Sr,.slice Su Sv ca1] 24));obtain⟨N,hN⟩:∃ N,u1.heap.size=N:=⟨_,rfl⟩;have hBN:B≤N:=hN▸hsz1
  rw [hN] at HL;go_wp2_with fail
  generalize u1.alloc (.cells #[.int .i64 ka1,.string Sm,.int .i64 Sr,.slice Su Sv ca1] 24)=v0 at *;have HLl:=HL.out.nd.lt;go_loopg [] n (fun kk wr=>∃ l2 x v,kk≤n∧B≤wr.heap.size∧Hid (bJ kk (.loop k x) l2=T)∧Hid (At W w wr S E A l2)∧Hid (Loc S B N wr x v))
  case atStart=>exact⟨l1,x1,.agg #[.int .i64 ka1,.string Sm,.int .i64 Sr,.slice Su Sv ca1],Nat.le_refl _,by omega,HT,aA,HL⟩
  clear HT aA HL MX
  case round=>
   obtain⟨lr,xd,vd,hkn,hBr,HT,aA,HL⟩:=hrel;cases gk with
   | zero=>exact absurd HT.out.symm ig.out
   | succ m=>
    have HT0:=HT.out;clear HT;simp only [bJ] at HT0;have HT:=Z_ HT0;clear HT0;obtain⟨kx,tx,mx,ax,nx,cx,rfl⟩:=bU HL.out.dat;have HH:=Z_ (nN aA.out.pr);have hkk:=Ew E lr;have htt:=L_ E lr;have hpr:∀ t r,lr=t::r→rK E lr=t:=fun t r e=>by rw [e];rfl
    generalize rK E lr=tk0 at HH hkk htt hpr;obtain⟨tk,tt,ta⟩:=tk0;simp only at hkk htt;unfold Gh at HH;rw [←hkk,←htt] at HT;have HOP:=Z_ (QD tt);generalize qO tt=oo at *;obtain⟨op,lv⟩:=oo;simp only at HT HOP;have HK:=Z_ hkk;clear hkk htt hpr;go_wp2_with fail
    refine HH.out.mono ?_
    rintro e u5 ⟨rfl,hE⟩;have X8:=Z_ (aH.made u5 #[.int .i64 tk,.string tt,.int .i64 ta] 195);have qU:=hE.alloc (.cells #[.int .i64 tk,.string tt,.int .i64 ta] 195);replace aA:=Z_ (aA.out.extend qU);replace HL:=Z_ (HL.out.extend qU);have X6:=Nat.le_trans hBr qU.size;obtain⟨Pk,hPk⟩:∃ Pk,u5.heap.size=Pk:=⟨_,rfl⟩;rw [hPk] at X8;clear hE qU HH;go_upto_region 5 with (fail)
    generalize u5.alloc (.cells #[.int .i64 tk,.string tt,.int .i64 ta] 195)=u6 at *;have p0:=X8.out.cell 0;have p1:=X8.out.cell 1;simp at p0 p1
    go_wp2_with fail
    refine(HOP.out _).mono ?_
    rintro e w' ⟨rfl,rfl⟩;clear HOP p1;by_cases hlv:lv=(k:Int)
    ·by_cases htk:tk=3
     ·subst htk
      have VW:(lv != (k:Int))=false:=by simp [hlv]
      have HT0:=HT.out;clear HT;simp only [hlv,and_self,↓reduceIte] at HT0;have HT:=Z_ HT0;clear HT0;obtain⟨t0,r0,rfl⟩:∃ t r,lr=t::r:=by cases lr with|nil=>exact absurd HK.out (by decide)|cons t r=>exact⟨t,r,rfl⟩
      obtain⟨kc,hkc,af6,oN⟩:=uH aA.out.pr;obtain⟨a',n',c',k',hBk,-,-⟩:=wu aA.out.pr;have hf:=hBk.frozen 1;have hSl:=hBk.lt;have af7:IntKind.i64.wrap ((kc:Int)+1)=(kc:Int)+1:=wrap_small _ (by omega) (by omega);replace HL:=Z_ (HL.out.call (ak (aB.refl _ _) 1 (.int .i64 ((kc:Int)+1))));replace aA:=Z_ (aA.out.call (ak (aB.refl _ _) 1 (.int .i64 ((kc:Int)+1))) oN);clear oN hBk X8;go_upto_region 9 with (fail)
      clear hkc hf hSl p0;have R_:B≤(u6.setCell ⟨S,1,none⟩ (.int .i64 ((kc:Int)+1))).heap.size:=by simpa using X6
      generalize u6.setCell ⟨S,1,none⟩ (.int .i64 ((kc:Int)+1))=u8 at *;have CN:A<N:=by omega
      refine ah [5,6,7,8] (fun i v _=>v=([.int .i64 op,.agg #[.int .i64 kx,.string tx,.int .i64 mx,.slice ax nx cx],.pointer (some ⟨S,0,none⟩),.int .i64 (k:Nat),.int .i64 ((k+1:Nat):Int),undef,undef,undef,undef]:List Value).getD i undef) (lH W w S E A B N r0 xd (.agg #[.int .i64 kx,.string tx,.int .i64 mx,.slice ax nx cx]) op (bJ m (.bound (k+1)) r0)) (fun _ _=>True) (frame:=?fra) (fun x=>?hfa) mixed (by kernel_rfl) (by kernel_rfl) (fun _ _ _ _ h _=>h) ?h0 ?st ?fin
      case hfa=>
       simp only [chain.aK,chain.fill,chain.bf,chain.aW,jJ,jK,jL,jM,jO,jP,jQ,jR,jS];exact rfl
      case h0=>exact⟨aA.out.extend (aB.refl _ _).drew,HL.out.extend (aB.refl _ _).drew,R_⟩
      case st=>
       iterate 9 (refine ai.cons (fun x vs u hF hm hb hd K' hK'=>?_) ?_;rotate_left)
       exact ai.nil
       ·have HF:=Z_ hF;clear hd hm hb hF;go_simp;exact hK'.out _ _ _ rfl trivial ⟨rfl,HF.out⟩
       ·have QE:=hF.cells (by have:=hb 1 _ (by decide) rfl (by kernel_rfl);omega);have hc:=QE.nd.cell;simp only [Value.cells] at hc;clear QE;have HF:=Z_ hF;clear hd hm hb hF;go_simp;exact hK'.out _ _ _ rfl trivial ⟨rfl,HF.out⟩
       ·have HF:=Z_ hF;clear hd hm hb hF;go_simp;exact hK'.out _ _ _ rfl trivial ⟨rfl,HF.out⟩
       ·have HF:=Z_ hF;clear hd hm hb hF;go_simp;exact hK'.out _ _ _ rfl trivial ⟨rfl,HF.out⟩
       ·have y0:x 44=.int .i64 (k:Nat):=(D_ hd 3 :);have HF:=Z_ hF;clear hd hm hb hF;go_simp;exact hK'.out _ _ _ (by simp only [y0];rfl) trivial ⟨by first|rfl|simp [hkw]|simp [ab2],HF.out⟩
       ·have y0:x 43=.pointer (some ⟨S,0,none⟩):=(D_ hd 2 :);have y1:x 45=.int .i64 ((k+1:Nat):Int):=(D_ hd 4 :);obtain rfl:=kF hm;have HF:=Z_ hF;clear hd hm hb hF;have jv:=Z_ (ih m (by omega) (.bound (k+1)) _ _ HF.out.1.pr HM.out rfl (by omega:k+1≤3) (Out.bg HT.out ig.out));go_simp;refine jv.out.mono ?_
        rintro e u2 hr;obtain⟨hC,⟨lb,hp,rfl⟩|⟨xn,ln,z,hp,rfl,hv,hP⟩⟩:=hr.cases (Out.bg HT.out ig.out)
        ·have HE:=Z_ (Out.aF HT.out hp)
         have HC:=Z_ (HF.out.1.aO.then hC);clear hr hp hC hK' jv;go_wp2_with fail
         exact⟨rfl,dZ.fails HC.out HE.out⟩
        ·exact hK'.out _ _ _ (by simp only [y0,y1];rfl) trivial (DF HF.out hC hp hv hP)
       ·obtain⟨v0,rfl⟩:=lK hm
        have y0:x 42=.agg #[.int .i64 kx,.string tx,.int .i64 mx,.slice ax nx cx]:=(D_ hd 1 :);have y1:x 46=v0:=((D_ hd 5) 46 (by kernel_rfl) :);have hcl:∃ a b c d,v0=.agg #[a,b,c,d]:=by obtain⟨yn,ln,_,_,_,_,hx⟩:=hF;obtain⟨a,b,c,d,h,_⟩:=bz hx;exact⟨a,b,c,d,h⟩
        obtain⟨a0,b0,c0,d0,rfl⟩:=hcl;have HF:=Z_ hF;clear hd hm hb hF;go_simp;exact hK'.out _ _ _ (by simp only [y0,y1];rfl) trivial (BU HF.out rfl)
       ·obtain⟨v0,v1,rfl⟩:=qX hm
        have y0:x 41=.int .i64 op:=(D_ hd 0 :);have y1:x 47=v1:=((D_ hd 6) 47 (by kernel_rfl) :);have hcl:∃ g,v1=.slice (some ⟨g,0,none⟩) 2 2:=by obtain⟨yn,ln,_,_,_,_,g,e,_⟩:=hF;exact⟨g,e⟩
        obtain⟨g,rfl⟩:=hcl;have HF:=Z_ hF;clear hd hm hb hF;go_simp;refine(dG _ _ _ _ _ _ _).mono ?_
        rintro e u2 ⟨rfl,hE⟩;exact hK'.out _ _ _ (by simp only [y0,y1];rfl) trivial (DG HF.out hE)
       ·obtain⟨v0,v1,v2,rfl⟩:=xy hm
        have y1:x 48=v2:=((D_ hd 7) 48 (by kernel_rfl) :);have hcl:∃ g,v2=.agg #[.int .i64 19,.string aS,.int .i64 op,.slice (some ⟨g,0,none⟩) 2 2]:=by obtain⟨yn,ln,_,_,_,_,g,e,_⟩:=hF;exact⟨g,e⟩
        obtain⟨g,rfl⟩:=hcl;have QE:Loc S B N u xd (.agg #[.int .i64 kx,.string tx,.int .i64 mx,.slice ax nx cx]):=by obtain⟨yn,ln,_,_,h,_⟩:=hF;exact h
        have hc:=QE.nd.cell;have hcf:=QE.nd.frozen;have hcl:=QE.nd.lt;simp only [Value.cells] at hc;clear QE;have HF:=Z_ hF;clear hd hm hb hF;go_simp;exact hK'.out _ _ undef (by simp only [y1];rfl) trivial (BV HF.out CN)
      case fin=>
       intro x vs w9 hl hF ab3;obtain⟨v0,v1,v2,v3,rfl⟩:=xA hl
       obtain⟨yn,ln,hT1,Ku,hL9,jG⟩:=hF;clear ab3 hl;replace HT:=Z_ (Out.aG HT.out hT1.out);replace aA:=Z_ Ku;replace HL:=Z_ hL9;clear hT1 Ku hL9;by_cases hk0:k=0
       ·subst hk0
        have HT0:=HT.out;clear HT;simp only [↓reduceIte] at HT0;have HT:=Z_ HT0;clear HT0;obtain⟨ky,ty,my,ay,ny,cy,rfl⟩:=bU HL.out.dat;have hc:=HL.out.nd.cell;simp only [Value.cells] at hc;have r0:=aA.out.res.cell;have rf:=aA.out.res.frozen;have rl:=aA.out.res.lt;unfold bQ at r0;go_wp2_with fail
        refine bD rfl rfl rfl ((((aA.out.res.set 0 _).set 1 _).set 2 _).set 3 _) Tryz.underlying24 rfl (by kernel_rfl) ?_
        exact eH aA.out (qp B N) (HL.out.dat) (iR (by omega)) (fun i hi=>iR (by omega)) (HT.out.symm)
       ·have hk5:((k:Int) == 0)=false:=by simp;omega
        have HT0:=HT.out;clear HT;simp only [hk0,↓reduceIte] at HT0;have HT:=Z_ HT0;clear HT0;go_wp2_with fail
        go_roundg m
        case rel=>exact⟨ln,_,v2,by omega,jG,HT,aA,HL⟩
        case measure=>omega
     ·have VW:(lv != (k:Int))=false:=by simp [hlv]
      have af8:(tk != 3)=true:=by simpa using htk
      have hno:¬ (tk=3∧lv=(k:Int)):=fun h=>htk h.1
      have HT0:=HT.out;clear HT;simp only [hno,↓reduceIte] at HT0;have HT:=Z_ HT0;clear HT0;have hc:=HL.out.nd.cell;simp only [Value.cells] at hc;have r0:=aA.out.res.cell;have rf:=aA.out.res.frozen;have rl:=aA.out.res.lt;unfold bQ at r0;go_wp2_with fail
      refine bD rfl rfl rfl ((((aA.out.res.set 0 _).set 1 _).set 2 _).set 3 _) Tryz.underlying24 rfl (by kernel_rfl) ?_
      exact eH aA.out (qp B N) (HL.out.dat) (iR (by omega)) (fun i hi=>iR (by omega)) (HT.out.symm)
    ·have VW:(lv != (k:Int))=true:=by simpa using hlv
     have hno:¬ (tk=3∧lv=(k:Int)):=fun h=>hlv h.2
     have HT0:=HT.out;clear HT;simp only [hno,↓reduceIte] at HT0;have HT:=Z_ HT0;clear HT0;have hc:=HL.out.nd.cell;simp only [Value.cells] at hc;have r0:=aA.out.res.cell;have rf:=aA.out.res.frozen;have rl:=aA.out.res.lt;unfold bQ at r0;go_wp2_with fail
     refine bD rfl rfl rfl ((((aA.out.res.set 0 _).set 1 _).set 2 _).set 3 _) Tryz.underlying24 rfl (by kernel_rfl) ?_
     exact eH aA.out (qp B N) (HL.out.dat) (iR (by omega)) (fun i hi=>iR (by omega)) (HT.out.symm)
end bn
end Go.Proofs.YtpcihajmcejliacGreatDoor
