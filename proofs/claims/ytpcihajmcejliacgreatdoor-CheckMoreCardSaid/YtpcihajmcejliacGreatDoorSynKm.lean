/- The walk of the program's parser: a block. The walk of the program's parser: modules. The walk of syntax.Parse: its recover, its two results. The parser in plain Lean: enough fuel always; and what scanning a text gives. What scanning a text gives the parser. -/
import Derived.Deep.LoopGhost
import Derived.Defers
import Derived.Recover
import Derived.Test.YtpcihajmcejliacGreatDoorNamem
import Derived.Test.YtpcihajmcejliacGreatDoorSynCm
import Derived.Test.YtpcihajmcejliacGreatDoorSyn7m
import Derived.Test.YtpcihajmcejliacGreatDoorSyn3m
namespace Go.Proofs.YtpcihajmcejliacGreatDoor
open Go.RowKit
namespace bn
set_option maxRecDepth 100000 in
set_option maxHeartbeats 4000000 in
theorem r_ {n:Nat} (ih:∀ m,m≤n→Good m) {W w:World} {S E:Nat} {l:List Tk} (h:bu W w S E l) (hm:dw W) (hne:bJ (n+1) .block l≠.out) :
  Calls Tryz.prog 229 #[.pointer (some ⟨S,0,none⟩)] w (dZ (VN w.heap.size) W w S E (bJ (n+1) .block l)):=by
 obtain⟨T,hT⟩:∃ T,bJ (n+1) .block l=T:=⟨_,rfl⟩;rw [hT] at hne ⊢;simp only [bJ] at hT;have HT:=Z_ hT;have ig:=Z_ hne;have HM:=Z_ hm;have hSl:=h.lt;have h1:=h.alloc (.cells bQ 24);have h2:=h1.alloc (.cells #[.string xR] 9);have HN:=Z_ (cg h2 (w.heap.size+1) 1 xR ((aH.made2 w (.cells bQ 24) #[.string xR] 9).cell 0));have Aq:Hid (aB (fun i=>i=S) w ((w.alloc (.cells bQ 24)).alloc (.cells #[.string xR] 9))):=Z_ (((aB.refl _ _).alloc _).alloc _);have Ov:=Z_ ((aH.made w bQ 24).alloc (.cells #[.string xR] 9));obtain⟨A,hA⟩:∃ A,w.heap.size=A:=⟨_,rfl⟩;rw [hA] at HN Ov;clear h h1 h2 hm hne hT;unfold bQ at HN Aq Ov;go_enter Tryz.func229,Tryz.ntmps229
 go_wp2_with fail
 refine HN.out.mono ?_
 rintro e w1 hr;obtain⟨Dq,⟨l1,hp,rfl⟩|⟨x1,l1,v1,hp,rfl,rfl,hP1⟩⟩:=hr.cases (dh _ _)
 ·have HF:=Z_ (Out.aF HT.out hp)
  have J9:=Z_ (Aq.out.then Dq);clear hr hp Dq;go_wp2_with fail
  exact⟨rfl,dZ.fails J9.out HF.out⟩
 ·have HT1:=Z_ (Out.aG HT.out hp)
  have J9:=Z_ (Aq.out.then Dq);have HA1:=Z_ (Ov.out.aO Dq (by omega));have LD:=Z_ hP1;clear hr hp Dq hP1 HN Aq Ov HT;go_wp2_with fail
  refine(dG _ _ _ _ _ _ _).mono ?_
  rintro e w2 ⟨rfl,hE2⟩;have oN:=(LD.out.extend hE2).alloc (.cells #[.int .i64 6,.string ⟨#[]⟩,.int .i64 0,.slice none 0 0] 24);have hAw:=(HA1.out.ext hE2).lt;have hB2:=iT.start (kind:=6) (text:=⟨#[]⟩) (num:=0) oN ((J9.out.ext hE2).alloc _) ((HA1.out.ext hE2).alloc _) (aH.made w2 _ _) hSl (by omega) hAw (DI oN);have HB2:=Z_ hB2;clear oN hE2 hB2 HA1 LD J9;obtain⟨N,hN⟩:∃ N,w2.heap.size=N:=⟨_,rfl⟩;rw [hN] at HB2;go_wp2_with fail
  generalize w2.alloc (.cells #[.int .i64 6,.string ⟨#[]⟩,.int .i64 0,.slice none 0 0] 24)=w3 at *;go_loopg [] n (fun k wr=>∃ l acc row,k≤n∧Hid (bJ k (.stats acc) l=T)∧Hid (iT W w wr S E A N l 6 ⟨#[]⟩ 0 row row acc))
  case atStart=>exact⟨l1,[],.slice none 0 0,Nat.le_refl _,HT1,HB2⟩
  case round=>
   obtain⟨lr,acc,row,hkn,hTr,HB⟩:=hrel;cases gk with
   | zero=>exact absurd hTr.out.symm ig.out
   | succ m=>
    have QW:=hTr.out;simp only [bJ] at QW;have HTR:=Z_ QW;have HH:=Z_ (cZ HB.out.pr Es);have gI:=Z_ (fun (h:fO lr [Es]=true)=>bC.aU h);generalize fO lr [Es]=R at *;clear hTr QW;go_wp2_with fail
    refine HH.out.mono ?_
    rintro e w4 ⟨rfl,Ky,QO⟩;cases R with
    | true=>
     have HB4:=Z_ (HB.out.call Ky (by simpa using QO:bu W w4 S E lr.tail) (by have:=gI.out rfl;omega));have HT4:=Z_ (show T=.got (.mk 6 ⟨#[]⟩ 0 acc) lr.tail by have:=HTR.out;rw [if_pos rfl] at this;exact this.symm);clear Ky QO HB;obtain⟨ra,rc,rfl⟩:=HB4.out.slice;have c0:=HB4.out.nd.cell 0;have c1:=HB4.out.nd.cell 1;have c2:=HB4.out.nd.cell 2;have c3:=HB4.out.nd.cell 3;have r0:=HB4.out.res.cell;have rf:=HB4.out.res.frozen;have rl:=HB4.out.res.lt;unfold bQ at r0;simp at c0 c1 c2 c3
     go_wp2_with fail
     refine bD rfl rfl rfl ((((HB4.out.res.set 0 _).set 1 _).set 2 _).set 3 _) Tryz.underlying24 rfl (by kernel_rfl) ?_
     exact HB4.out.ret (by decide) HT4.out _ _ _ _
    | false=>
     have HB:=Z_ (HB.out.call Ky (by simpa using QO:bu W w4 S E lr) (Nat.le_refl _));have HT4:=Z_ (show (bJ m .stat lr).bind (fun x l=>bJ m (.stats (acc ++ [x])) l)=T by have:=HTR.out;simpa using this);clear Ky QO HTR gI HH;go_upto_region 4 with (fail)
     refine ah [3,4,5,7] (fun i v _=>v=([.pointer (some ⟨N,3,none⟩),row,.pointer (some ⟨S,0,none⟩),undef,undef,undef,.pointer (some ⟨N,3,none⟩),undef]:List Value).getD i undef) (fK W w S E A N lr 6 ⟨#[]⟩ 0 row acc (bJ m .stat lr)) (fun _ _=>True) (frame:=?Bd) (fun x=>?o7) mixed (by kernel_rfl) (by kernel_rfl) (fun _ _ _ _ h _=>h) ?Be ?Bf ?o8
     case o7=>
      simp only [chain.aK,chain.fill,chain.bf,chain.aW,jJ,jK,jL,jM,jO,jP,jQ,jR,jS];exact rfl
     case Be=>exact HB.out.extend (aB.refl _ _).drew
     case Bf=>
      iterate 8 (refine ai.cons (fun x vs u hF hm hb hd K' hK'=>?_) ?_;rotate_left)
      exact ai.nil
      ·have HF:=Z_ hF;clear hd hm hb hF;go_simp;exact hK'.out _ _ _ rfl trivial ⟨rfl,HF.out⟩
      ·have y0:x 11=.pointer (some ⟨N,3,none⟩):=(D_ hd 0 :);have hc:=hF.cell (by have:=hb 2 _ (by decide) rfl (by kernel_rfl);omega);have HF:=Z_ hF;clear hd hm hb hF;go_simp;exact hK'.out _ _ _ (by simp only [y0];rfl) trivial ⟨rfl,HF.out⟩
      ·have HF:=Z_ hF;clear hd hm hb hF;go_simp;exact hK'.out _ _ _ rfl trivial ⟨rfl,HF.out⟩
      ·have y0:x 13=.pointer (some ⟨S,0,none⟩):=(D_ hd 2 :);obtain rfl:=kF hm;have HF:=Z_ (show iT _ _ _ _ _ _ _ _ _ _ _ _ _ _ from hF);clear hd hm hb hF;have jv:=Z_ (ih m (by omega) .stat _ _ HF.out.pr HM.out rfl trivial (Out.bg HT4.out ig.out));go_simp;refine jv.out.mono ?_
       rintro e u2 hr;obtain⟨hC,⟨lb,hp,rfl⟩|⟨xn,ln,v,hp,rfl,hv,hP⟩⟩:=hr.cases (Out.bg HT4.out ig.out)
       ·have HE:=Z_ (Out.aF HT4.out hp)
        have HC:=Z_ (HF.out.aO.then hC);clear hr hp hC hK' jv;go_wp2_with fail
        exact⟨rfl,dZ.fails HC.out HE.out⟩
       ·exact hK'.out _ _ _ (by simp only [y0];rfl) trivial (f_ HF.out hC hp hv hP (bC.dJ _ _ _ _ _ hp))
      ·obtain⟨v0,rfl⟩:=lK hm
       have y0:x 14=v0:=((D_ hd 3) 14 (by kernel_rfl) :);have hcl:∃ a b c d,v0=.agg #[a,b,c,d]:=by obtain⟨xn,ln,_,_,_,hx⟩:=hF;obtain⟨a,b,c,d,h,_⟩:=bz hx;exact⟨a,b,c,d,h⟩
       obtain⟨a0,b0,c0,d0,rfl⟩:=hcl;have HF:=Z_ hF;clear hd hm hb hF;go_simp;exact hK'.out _ _ _ (by simp only [y0];rfl) trivial (dO HF.out rfl)
      ·obtain⟨v0,v1,rfl⟩:=qX hm
       have y0:x 12=row:=(D_ hd 1 :);have y1:x 15=v1:=((D_ hd 4) 15 (by kernel_rfl) :);have hF2:=hF;obtain⟨xn,ln,hT1,aP,hfew,hx,gg,rfl,hgb,hgr⟩:=hF2;obtain⟨us,hu1,ho,hu3⟩:=aP.grow.ex;have hlt:=aP.lt;obtain⟨jc,jd,hz0,hz1,hz2⟩:=aX eP;refine wp_append_lies _ _ _ 22 rfl (N+1) 24 jc (.agg #[.int .i64 0,.string ⟨#[]⟩,.int .i64 0,.slice none 0 0]) 4 56 Tryz.underlying22 jd hz0 hz1 hz2 rfl (by decide) row acc.length (us.flatMap fun u=>u.cells.toList) y0 ho ⟨gg,0,none⟩ 1 1 v0.cells.toList y1 (by rw [Array.length_toList,fA hx]) ?_ (by obtain⟨a,b,c,d,e,e2,p1,p2,p3,p4⟩:=bz hx;rw [e2];intro q hq;simp at hq;rcases hq with rfl|rfl|rfl|rfl<;>assumption) (by decide) (by unfold maxLen;omega) (by omega) (by omega) u.heap.size rfl ?_
       ·intro j q hj;have e:(⟨gg,0,none⟩:Addr).add j=⟨gg,j,none⟩:=(by unfold Addr.add;split<;>simp_all);rw [e,hgb.cell];simpa using hj
       ·intro g9 c9 w9 iQ iJ jU qF
        exact hK'.out _ _ _ rfl trivial (push_append hF hu1 hu3 iQ iJ jU)
      ·have HF:=Z_ hF;clear hd hm hb hF;go_simp;exact hK'.out _ _ _ rfl trivial ⟨rfl,HF.out⟩
      ·obtain⟨v0,v1,v2,rfl⟩:=xy hm
       have y0:x 17=.pointer (some ⟨N,3,none⟩):=(D_ hd 6 :);have y1:x 16=v2:=((D_ hd 5) 16 (by kernel_rfl) :);have hF2:=hF;obtain⟨xn,ln,hT1,aP,gg,cc,rfl⟩:=hF2;have hc:=aP.nd.cell 3;have hf:=aP.nd.frozen 3;have hl:=aP.lt;simp at hc
       have HF:=Z_ hF;clear hd hm hb hF aP hT1;go_simp;exact hK'.out _ _ undef (by simp only [y0,y1];rfl) trivial (dP HF.out)
     case o8=>
      intro x vs w9 hl hF hk;obtain⟨v0,v1,v2,v3,rfl⟩:=xA hl
      obtain⟨xn,ln,hT1,jG⟩:=hF;clear hk hl;have kS:=Z_ (Out.aG HT4.out hT1.out);have HB9:=Z_ jG;clear hT1 jG;go_wp2_with fail
      go_roundg m
      case rel=>exact⟨ln,acc ++ [xn],v2,by omega,kS,HB9⟩
      case measure=>omega
end bn
end Go.Proofs.YtpcihajmcejliacGreatDoor
namespace Go.Proofs.YtpcihajmcejliacGreatDoor
open Go.RowKit
namespace bn
set_option maxRecDepth 100000 in
set_option maxHeartbeats 4000000 in
theorem DL {n:Nat} (ih:∀ m,m≤n→Good m) {W w:World} {S E:Nat} {l:List Tk} (h:bu W w S E l) (hm:dw W) (hne:bJ (n+1) (.module) l≠.out) :
  Calls Tryz.prog 48 #[.pointer (some ⟨S,0,none⟩)] w (dZ (VN w.heap.size) W w S E (bJ (n+1) (.module) l)):=by
 obtain⟨T,hT⟩:∃ T,bJ (n+1) (.module) l=T:=⟨_,rfl⟩;rw [hT] at hne ⊢;simp only [bJ] at hT;have HT:=Z_ hT;have ig:=Z_ hne;have HM:=Z_ hm;have aA:Hid (At W w (w.alloc (.cells #[.int .i64 0,.string ⟨#[]⟩,.int .i64 0,.slice none 0 0] 24)) S E w.heap.size l):=Z_ (At.start h);obtain⟨A,hA⟩:∃ A,w.heap.size=A:=⟨_,rfl⟩;rw [hA] at aA;have MW:S<A:=by have:=h.lt;omega
 clear h hm hne hT;go_enter Tryz.func48,Tryz.ntmps48
 go_upto_region 1 with (fail)
 generalize w.alloc (.cells #[.int .i64 0,.string ⟨#[]⟩,.int .i64 0,.slice none 0 0] 24)=u0 at *;have HN:=Z_ (cg (aA.out.pr.alloc (.cells #[.string rI] 9)) u0.heap.size 1 rI ((aH.made u0 #[.string rI] 9).cell 0));have eM:=(aB.refl (fun _=>False) u0).alloc (.cells #[.string rI] 9);replace aA:=Z_ (aA.out.extend eM);clear eM;go_wp2_with fail
 refine HN.out.mono ?_
 rintro e u1 hr;obtain⟨hC,⟨lb,hp,rfl⟩|⟨_,l1,_,hp,rfl,rfl,hP⟩⟩:=hr.cases (dh _ _)
 ·have HF:=Z_ (Out.aF HT.out hp)
  have HC:=Z_ (aA.out.aO.then hC);clear hr hp hC;go_wp2_with fail
  exact⟨rfl,dZ.fails HC.out HF.out⟩
 replace HT:=Z_ (Out.aG HT.out hp);replace aA:=Z_ (aA.out.call hC hP);clear hr hp hC hP HN;have HN:=Z_ (name_any aA.out.pr HM.out);go_wp2_with fail
 refine HN.out.mono ?_
 rintro e u2 hr;obtain⟨hC,⟨lb,hp,rfl⟩|⟨s2,l2,v,hp,rfl,⟨rfl,hs⟩,hP⟩⟩:=hr.cases (iI _)
 ·have HF:=Z_ (Out.aF HT.out hp)
  have HC:=Z_ (aA.out.aO.then hC);clear hr hp hC;go_wp2_with fail
  exact⟨rfl,dZ.fails HC.out HF.out⟩
 replace HT:=Z_ (Out.aG HT.out hp);replace aA:=Z_ (aA.out.call hC hP);have lM:=Z_ hs;clear hr hp hC hP HN;clear hs;generalize s2=s at *;go_wp2_with fail
 refine(dG _ _ _ _ _ _ _).mono ?_
 rintro e u3 ⟨rfl,hE⟩;replace aA:=Z_ (aA.out.extend hE);have HB:=Z_ ((aA.out.alloc (.cells #[.int .i64 (1),.string s,.int .i64 (0),.slice none 0 0] 24)).Sz (aH.made u3 _ _) aA.out.lt);obtain⟨N,hN⟩:∃ N,u3.heap.size=N:=⟨_,rfl⟩;rw [hN] at HB;clear hE aA;go_upto_region 3 with (fail)
 generalize u3.alloc (.cells #[.int .i64 (1),.string s,.int .i64 (0),.slice none 0 0] 24)=v0 at *;have aA:=Z_ HB.out.at;have HN:=Z_ (cg (aA.out.pr.alloc (.cells #[.string cO] 9)) v0.heap.size 1 cO ((aH.made v0 #[.string cO] 9).cell 0));have eM:=(aB.refl (fun _=>False) v0).alloc (.cells #[.string cO] 9);replace HB:=Z_ (HB.out.extend eM);replace aA:=Z_ HB.out.at;clear eM;go_wp2_with fail
 refine HN.out.mono ?_
 rintro e u4 hr;obtain⟨hC,⟨lb,hp,rfl⟩|⟨_,l4,_,hp,rfl,rfl,hP⟩⟩:=hr.cases (dh _ _)
 ·have HF:=Z_ (Out.aF HT.out hp)
  have HC:=Z_ (aA.out.aO.then hC);clear hr hp hC;go_wp2_with fail
  exact⟨rfl,dZ.fails HC.out HF.out⟩
 replace HT:=Z_ (Out.aG HT.out hp);replace HB:=Z_ (HB.out.call hC hP (by have:=bC.aV hp;omega));replace aA:=Z_ HB.out.at;clear hr hp hC hP HN;go_wp2_with fail
 go_loopg [] n (fun k wr=>∃ l2 acc row,k≤n∧Hid (bJ k (.imports s acc) l2=T)∧Hid (iT W w wr S E A N l2 1 s 0 row row acc))
 case atStart=>exact⟨l4,[],.slice none 0 0,Nat.le_refl _,HT,HB⟩
 clear HT HB aA
 case round=>
  obtain⟨lr,acc,row,hkn,HT,HB⟩:=hrel;cases gk with
  | zero=>exact absurd HT.out.symm ig.out
  | succ m=>
   have HT0:=HT.out;clear HT;simp only [bJ] at HT0;have HT:=Z_ HT0;clear HT0;have aA:=Z_ HB.out.at;have HH:=Z_ (cZ aA.out.pr uG);have gI:=Z_ (fun (h:fO lr [uG]=true)=>bC.aU h);generalize fO lr [uG]=R at *;go_wp2_with fail
   refine HH.out.mono ?_
   rintro e u5 ⟨rfl,hC,hP⟩;cases R with
   | false=>
    replace hP:bu W u5 S E lr:=by simpa using hP
    have HT0:=HT.out;clear HT;simp only [Bool.false_eq_true,↓reduceIte] at HT0;have HT:=Z_ HT0;clear HT0;replace HB:=Z_ (HB.out.call hC hP (Nat.le_refl _));replace aA:=Z_ HB.out.at;clear hC hP HH gI;go_wp2_with fail
    go_loopg [] m (fun k wr=>∃ l2 acc row,k≤m∧Hid (bJ k (.decls s acc) l2=T)∧Hid (iT W w wr S E A N l2 1 s 0 row row acc))
    case atStart=>exact⟨lr,acc,row,Nat.le_refl _,HT,HB⟩
    clear HT HB aA
    case round=>
     obtain⟨ld,acc,row,hkm,HT,HB⟩:=hrel;cases gk with
     | zero=>exact absurd HT.out.symm ig.out
     | succ j=>
      have HT0:=HT.out;clear HT;simp only [bJ] at HT0;have HT:=Z_ HT0;clear HT0;have aA:=Z_ HB.out.at;obtain⟨ta,tn,tc,tk,GZ,hlk,htn⟩:=wu aA.out.pr;have h0:=GZ.cell 0;have h1:=GZ.cell 1;simp at h0 h1
      have hSf:=GZ.frozen;have hSl:=GZ.lt;cases ld with
      | nil=>
       have HT0:=HT.out;clear HT;simp only [List.length_nil,↓reduceIte] at HT0;have HT:=Z_ HT0;clear HT0;simp only [List.length_nil,Nat.add_zero] at hlk;subst hlk;clear GZ;go_wp2_with fail
       go_quiet (fail)
       replace HB:=Z_ (HB.out.extend ((aB.refl _ _).drewN nq));generalize World.drewN _ nq=w6 at *;clear h0 h1 hSf hSl;obtain⟨ra,rn,rc,hrow⟩:=HB.out.slice3
       first|subst hrow|clear hrow
       have c0:=HB.out.nd.cell 0;have c1:=HB.out.nd.cell 1;have c2:=HB.out.nd.cell 2;have c3:=HB.out.nd.cell 3;have r0:=HB.out.res.cell;have rf:=HB.out.res.frozen;have rl:=HB.out.res.lt;unfold bQ at r0;simp at c0 c1 c2 c3
       go_wp2_with fail
       refine bD rfl rfl rfl ((((HB.out.res.set 0 _).set 1 _).set 2 _).set 3 _) Tryz.underlying24 rfl (by kernel_rfl) ?_
       exact HB.out.ret (by have:=lM.out;omega) (HT.out.symm) _ _ _ _
      | cons t r=>
       have HT0:=HT.out;clear HT;simp only [List.length_cons,Nat.add_one_ne_zero,↓reduceIte] at HT0;have HT:=Z_ HT0;clear HT0;have af9:(tk:Int)<(tn:Int):=by simp only [List.length_cons] at hlk;omega
       clear GZ;go_wp2_with fail
       go_quiet (fail)
       replace HB:=Z_ (HB.out.extend ((aB.refl _ _).drewN nq));generalize World.drewN _ nq=w6 at *;replace aA:=Z_ HB.out.at;clear h0 h1 hSf hSl;go_upto_region 8 with (fail)
       refine ah [3,4,5,7] (fun i v _=>v=([.pointer (some ⟨N,3,none⟩),row,.pointer (some ⟨S,0,none⟩),undef,undef,undef,.pointer (some ⟨N,3,none⟩),undef]:List Value).getD i undef) (fK W w S E A N (t::r) 1 s 0 row acc (bJ j .decl (t::r))) (fun _ _=>True) (frame:=?Ah) (fun x=>?oQ) mixed (by kernel_rfl) (by kernel_rfl) (fun _ _ _ _ h _=>h) ?Ai ?Aj ?oU
       case oQ=>
        simp only [chain.aK,chain.fill,chain.bf,chain.aW,jJ,jK,jL,jM,jO,jP,jQ,jR,jS];exact rfl
       case Ai=>exact HB.out.extend (aB.refl _ _).drew
       case Aj=>
        iterate 8 (refine ai.cons (fun x vs u hF hm hb hd K' hK'=>?_) ?_;rotate_left)
        exact ai.nil
        ·have HF:=Z_ hF;clear hd hm hb hF;go_simp;exact hK'.out _ _ _ rfl trivial ⟨rfl,HF.out⟩
        ·have y0:x 36=.pointer (some ⟨N,3,none⟩):=(D_ hd 0 :);have hc:=hF.cell (by have:=hb 2 _ (by decide) rfl (by kernel_rfl);omega);have HF:=Z_ hF;clear hd hm hb hF;go_simp;exact hK'.out _ _ _ (by simp only [y0];rfl) trivial ⟨rfl,HF.out⟩
        ·have HF:=Z_ hF;clear hd hm hb hF;go_simp;exact hK'.out _ _ _ rfl trivial ⟨rfl,HF.out⟩
        ·have y0:x 38=.pointer (some ⟨S,0,none⟩):=(D_ hd 2 :);obtain rfl:=kF hm;have HF:=Z_ (show iT _ _ _ _ _ _ _ _ _ _ _ _ _ _ from hF);clear hd hm hb hF;have jv:=Z_ (ih j (by omega) .decl _ _ HF.out.pr HM.out rfl trivial (Out.bg HT.out ig.out));go_simp;refine jv.out.mono ?_
         rintro e u2 hr;obtain⟨hC,⟨lb,hp,rfl⟩|⟨xn,ln,v,hp,rfl,hv,hP⟩⟩:=hr.cases (Out.bg HT.out ig.out)
         ·have HE:=Z_ (Out.aF HT.out hp)
          have HC:=Z_ (HF.out.aO.then hC);clear hr hp hC hK' jv;go_wp2_with fail
          exact⟨rfl,dZ.fails HC.out HE.out⟩
         ·exact hK'.out _ _ _ (by simp only [y0];rfl) trivial (f_ HF.out hC hp hv hP (bC.dJ _ _ _ _ _ hp))
        ·obtain⟨v0,rfl⟩:=lK hm
         have y0:x 39=v0:=((D_ hd 3) 39 (by kernel_rfl) :);have hcl:∃ a b c d,v0=.agg #[a,b,c,d]:=by obtain⟨xn,ln,_,_,_,hx⟩:=hF;obtain⟨a,b,c,d,h,_⟩:=bz hx;exact⟨a,b,c,d,h⟩
         obtain⟨a0,b0,c0,d0,rfl⟩:=hcl;have HF:=Z_ hF;clear hd hm hb hF;go_simp;exact hK'.out _ _ _ (by simp only [y0];rfl) trivial (dO HF.out rfl)
        ·obtain⟨v0,v1,rfl⟩:=qX hm
         have y0:x 37=row:=(D_ hd 1 :);have y1:x 40=v1:=((D_ hd 4) 40 (by kernel_rfl) :);have hF2:=hF;obtain⟨xn,ln,hT1,aP,hfew,hx,gg,rfl,hgb,hgr⟩:=hF2;obtain⟨us,hu1,ho,hu3⟩:=aP.grow.ex;have hlt:=aP.lt;obtain⟨jc,jd,hz0,hz1,hz2⟩:=aX eP;refine wp_append_lies _ _ _ 22 rfl (N+1) 24 jc (.agg #[.int .i64 0,.string ⟨#[]⟩,.int .i64 0,.slice none 0 0]) 4 56 Tryz.underlying22 jd hz0 hz1 hz2 rfl (by decide) row acc.length (us.flatMap fun u=>u.cells.toList) y0 ho ⟨gg,0,none⟩ 1 1 v0.cells.toList y1 (by rw [Array.length_toList,fA hx]) ?_ (by obtain⟨a,b,c,d,e,e2,p1,p2,p3,p4⟩:=bz hx;rw [e2];intro q hq;simp at hq;rcases hq with rfl|rfl|rfl|rfl<;>assumption) (by decide) (by unfold maxLen;omega) (by omega) (by omega) u.heap.size rfl ?_
         ·intro j q hj;have e:(⟨gg,0,none⟩:Addr).add j=⟨gg,j,none⟩:=(by unfold Addr.add;split<;>simp_all);rw [e,hgb.cell];simpa using hj
         ·intro g9 c9 w9 iQ iJ jU qF
          exact hK'.out _ _ _ rfl trivial (push_append hF hu1 hu3 iQ iJ jU)
        ·have HF:=Z_ hF;clear hd hm hb hF;go_simp;exact hK'.out _ _ _ rfl trivial ⟨rfl,HF.out⟩
        ·obtain⟨v0,v1,v2,rfl⟩:=xy hm
         have y0:x 42=.pointer (some ⟨N,3,none⟩):=(D_ hd 6 :);have y1:x 41=v2:=((D_ hd 5) 41 (by kernel_rfl) :);have hF2:=hF;obtain⟨xn,ln,hT1,aP,gg,cc,rfl⟩:=hF2;have hc:=aP.nd.cell 3;have hf:=aP.nd.frozen 3;have hl:=aP.lt;simp at hc
         have HF:=Z_ hF;clear hd hm hb hF aP hT1;go_simp;exact hK'.out _ _ undef (by simp only [y0,y1];rfl) trivial (dP HF.out)
       case oU=>
        intro x vs w9 hl hF hk;obtain⟨v0,v1,v2,v3,rfl⟩:=xA hl
        obtain⟨xn,ln,hT1,jG⟩:=hF;clear hk hl;replace HT:=Z_ (Out.aG HT.out hT1.out);replace HB:=Z_ jG;clear hT1 jG;go_wp2_with fail
        go_roundg j
        case rel=>exact⟨ln,acc ++ [xn],v2,by omega,HT,HB⟩
        case measure=>omega
   | true=>
    replace hP:bu W u5 S E lr.tail:=by simpa using hP
    have HT0:=HT.out;clear HT;simp only [↓reduceIte] at HT0;have HT:=Z_ HT0;clear HT0;replace HB:=Z_ (HB.out.call hC hP (by have:=gI.out rfl;omega));replace aA:=Z_ HB.out.at;clear hC hP HH gI;go_upto_region 5 with (fail)
    refine ah [3,4,5,6,8] (fun i v _=>v=([.pointer (some ⟨N,3,none⟩),row,.pointer (some ⟨S,0,none⟩),undef,undef,undef,undef,.pointer (some ⟨N,3,none⟩),undef]:List Value).getD i undef) (tX W w S E A N lr.tail 1 s 0 row acc 2 0) (fun _ _=>True) (frame:=?Bd) (fun x=>?o7) mixed (by kernel_rfl) (by kernel_rfl) (fun _ _ _ _ h _=>h) ?Be ?Bf ?o8
    case o7=>
     simp only [chain.aK,chain.fill,chain.bf,chain.aW,jJ,jK,jL,jM,jO,jP,jQ,jR,jS];exact rfl
    case Be=>exact HB.out.extend (aB.refl _ _).drew
    case Bf=>
     iterate 9 (refine ai.cons (fun x vs u hF hm hb hd K' hK'=>?_) ?_;rotate_left)
     exact ai.nil
     ·have HF:=Z_ hF;clear hd hm hb hF;go_simp;exact hK'.out _ _ _ rfl trivial ⟨rfl,HF.out⟩
     ·have y0:x 15=.pointer (some ⟨N,3,none⟩):=(D_ hd 0 :);have hc:=hF.cell (by have:=hb 3 _ (by decide) rfl (by kernel_rfl);omega);have HF:=Z_ hF;clear hd hm hb hF;go_simp;exact hK'.out _ _ _ (by simp only [y0];rfl) trivial ⟨rfl,HF.out⟩
     ·have HF:=Z_ hF;clear hd hm hb hF;go_simp;exact hK'.out _ _ _ rfl trivial ⟨rfl,HF.out⟩
     ·have y0:x 17=.pointer (some ⟨S,0,none⟩):=(D_ hd 2 :);obtain rfl:=kF hm;have HF:=Z_ (show iT _ _ _ _ _ _ _ _ _ _ _ _ _ _ from hF);clear hd hm hb hF;have jv:=Z_ (name_any HF.out.pr HM.out);go_simp;refine jv.out.mono ?_
      rintro e u2 hr;obtain⟨hC,⟨lb,hp,rfl⟩|⟨sn,lx,v,hp,rfl,⟨rfl,hsz⟩,hP⟩⟩:=hr.cases (iI _)
      ·have HE:=Z_ (Out.aF HT.out hp)
       have HC:=Z_ (HF.out.aO.then hC);clear hr hp hC hK' jv;go_wp2_with fail
       exact⟨rfl,dZ.fails HC.out HE.out⟩
      ·exact hK'.out _ _ _ (by simp only [y0];rfl) trivial (qQ HF.out hC hp hsz hP)
     ·obtain⟨v0,rfl⟩:=lK hm
      have y0:x 18=v0:=((D_ hd 3) 18 (by kernel_rfl) :);have hcl:∃ s,v0=.string s:=by obtain⟨s,ln,_,e,_⟩:=hF;exact⟨s,e⟩
      obtain⟨sn,rfl⟩:=hcl;have HF:=Z_ hF;clear hd hm hb hF;go_simp;refine(dG _ _ _ _ _ _ _).mono ?_
      rintro e u2 ⟨rfl,hE⟩;exact hK'.out _ _ _ (by simp only [y0];rfl) trivial (qR HF.out hE)
     ·obtain⟨vz,v0,rfl⟩:∃ vz v0,vs=[vz,v0]:=by match vs,hm 2 (by kernel_rfl) with|[vz,v0],_=>exact⟨_,_,rfl⟩
      have y0:x 19=v0:=((D_ hd 4) 19 (by kernel_rfl) :);replace hF:fK W w S E A N lr.tail 1 s 0 row acc (mg 2 0 lr.tail) [v0] u:=hF;have hcl:∃ a b c d,v0=.agg #[a,b,c,d]:=by obtain⟨xn,ln,_,_,_,hx⟩:=hF;obtain⟨a,b,c,d,h,_⟩:=bz hx;exact⟨a,b,c,d,h⟩
      obtain⟨a0,b0,c0,d0,rfl⟩:=hcl;have HF:=Z_ hF;clear hd hm hb hF;go_simp;exact hK'.out _ _ _ (by simp only [y0];rfl) trivial (dO HF.out rfl)
     ·obtain⟨vz,v0,v1,rfl⟩:∃ vz v0 v1,vs=[vz,v0,v1]:=by match vs,hm 3 (by kernel_rfl) with|[vz,v0,v1],_=>exact⟨_,_,_,rfl⟩
      have y0:x 16=row:=(D_ hd 1 :);have y1:x 20=v1:=((D_ hd 5) 20 (by kernel_rfl) :);replace hF:fK W w S E A N lr.tail 1 s 0 row acc (mg 2 0 lr.tail) [v0,v1] u:=hF;have hF2:=hF;obtain⟨xn,ln,hT1,aP,hfew,hx,gg,rfl,hgb,hgr⟩:=hF2;obtain⟨us,hu1,ho,hu3⟩:=aP.grow.ex;have hlt:=aP.lt;obtain⟨jc,jd,hz0,hz1,hz2⟩:=aX eP;refine wp_append_lies _ _ _ 22 rfl (N+1) 24 jc (.agg #[.int .i64 0,.string ⟨#[]⟩,.int .i64 0,.slice none 0 0]) 4 56 Tryz.underlying22 jd hz0 hz1 hz2 rfl (by decide) row acc.length (us.flatMap fun u=>u.cells.toList) y0 ho ⟨gg,0,none⟩ 1 1 v0.cells.toList y1 (by rw [Array.length_toList,fA hx]) ?_ (by obtain⟨a,b,c,d,e,e2,p1,p2,p3,p4⟩:=bz hx;rw [e2];intro q hq;simp at hq;rcases hq with rfl|rfl|rfl|rfl<;>assumption) (by decide) (by unfold maxLen;omega) (by omega) (by omega) u.heap.size rfl ?_
      ·intro j q hj;have e:(⟨gg,0,none⟩:Addr).add j=⟨gg,j,none⟩:=(by unfold Addr.add;split<;>simp_all);rw [e,hgb.cell];simpa using hj
      ·intro g9 c9 w9 iQ iJ jU qF
       exact hK'.out _ _ _ rfl trivial (push_append hF hu1 hu3 iQ iJ jU)
     ·have HF:=Z_ hF;clear hd hm hb hF;go_simp;exact hK'.out _ _ _ rfl trivial ⟨rfl,HF.out⟩
     ·obtain⟨vz,v0,v1,v2,rfl⟩:∃ vz v0 v1 v2,vs=[vz,v0,v1,v2]:=by match vs,hm 4 (by kernel_rfl) with|[vz,v0,v1,v2],_=>exact⟨_,_,_,_,rfl⟩
      have y0:x 22=.pointer (some ⟨N,3,none⟩):=(D_ hd 7 :);have y1:x 21=v2:=((D_ hd 6) 21 (by kernel_rfl) :);replace hF:fK W w S E A N lr.tail 1 s 0 row acc (mg 2 0 lr.tail) [v0,v1,v2] u:=hF;have hF2:=hF;obtain⟨xn,ln,hT1,aP,gg,cc,rfl⟩:=hF2;have hc:=aP.nd.cell 3;have hf:=aP.nd.frozen 3;have hl:=aP.lt;simp at hc
      have HF:=Z_ hF;clear hd hm hb hF aP hT1;go_simp;exact hK'.out _ _ undef (by simp only [y0,y1];rfl) trivial (dP (z:=undef) HF.out)
    case o8=>
     intro x vs w9 hl hF hk;obtain⟨vz,v0,v1,v2,v3,rfl⟩:∃ vz v0 v1 v2 v3,vs=[vz,v0,v1,v2,v3]:=by match vs,hl with|[vz,v0,v1,v2,v3],_=>exact⟨_,_,_,_,_,rfl⟩
     obtain⟨xn,ln,hT1,jG⟩:=hF;clear hk hl;have hT2:=hT1.out;unfold mg at hT2;obtain⟨sn,lz,hq1,hq2⟩:=bC.ag hT2;injection hq2 with hq3 hq4
     subst hq3 hq4;replace HT:=Z_ (Out.aG HT.out hq1);replace HB:=Z_ jG;replace aA:=Z_ HB.out.at;clear hT1 jG hT2 hq1;have HN:=Z_ (cg (aA.out.pr.alloc (.cells #[.string cO] 9)) w9.heap.size 1 cO ((aH.made w9 #[.string cO] 9).cell 0));have eM:=(aB.refl (fun _=>False) w9).alloc (.cells #[.string cO] 9);replace HB:=Z_ (HB.out.extend eM);replace aA:=Z_ HB.out.at;clear eM;go_wp2_with fail
     refine HN.out.mono ?_
     rintro e u7 hr;obtain⟨hC,⟨lb,hp,rfl⟩|⟨_,l7,_,hp,rfl,rfl,hP⟩⟩:=hr.cases (dh _ _)
     ·have HF:=Z_ (Out.aF HT.out hp)
      have HC:=Z_ (aA.out.aO.then hC);clear hr hp hC;go_wp2_with fail
      exact⟨rfl,dZ.fails HC.out HF.out⟩
     replace HT:=Z_ (Out.aG HT.out hp);replace HB:=Z_ (HB.out.call hC hP (by have:=bC.aV hp;omega));replace aA:=Z_ HB.out.at;clear hr hp hC hP HN;go_wp2_with fail
     go_roundg m
     case rel=>exact⟨l7,acc ++ [.mk 2 sn 0 []],v2,by omega,HT,HB⟩
     case measure=>omega
theorem JA:∀ n,Good n:=by
 intro n;induction n using Nat.strongRecOn with
 | _ n IH=>
  cases n with
  | zero=>intro W w S E l X f a _ _ _ _ hne;exact absurd (by cases X<;>rfl) hne
  | succ n=>
   have ih:∀ m,m≤n→Good m:=fun m hm=>IH m (by omega)
   intro W w S E l X f a h hm ha hk hne;cases X with
   | expr=>cases ha;exact uY ih h hm hne
   | bound k=>cases ha;exact Gy ih h hm hk hne
   | unary=>cases ha;exact Gx ih h hm hne
   | asked=>cases ha;exact Gv ih h hm hne
   | place s=>cases ha;exact Gw ih h hm hk hne
   | call s=>cases ha;exact uN ih h hm hk hne
   | block=>cases ha;exact r_ ih h hm hne
   | stat=>cases ha;exact uV ih h hm hne
   | decl=>cases ha;exact JR ih h hm hne
   | proc dX=>cases ha;exact JS ih h hm hk hne
   | module=>cases ha;exact DL ih h hm hne
   | loop k x=>cases ha
   | args s acc=>cases ha
   | stats acc=>cases ha
   | params s dX acc=>cases ha
   | imports s acc=>cases ha
   | decls s acc=>cases ha
end bn
end Go.Proofs.YtpcihajmcejliacGreatDoor
namespace Go.Proofs.YtpcihajmcejliacGreatDoor
open Go.RowKit
theorem jq {P:Program} {fn:Func} {p q:Tmp} {ty Ea:TypeId} (h:fn.results=#[.cell p ty,.cell q Ea]) (tmps:Array Value) (w:World) {g g2:Nat} {T T2:TypeId} {cs Eb:Array Value} {d d2:TypeDesc}
  (hp:tmps.getD p undef=.pointer (some ⟨g,0,none⟩)) (hg:aH w g cs T) (hu:P.underlying ty=some d) (hd:(match d with|.struct _|.array _ _=>true|_=>false)=true) (hi:(P.info? ty).map (·.size)=some cs.size)
  (hq:tmps.getD q undef=.pointer (some ⟨g2,0,none⟩)) (hg2:aH w g2 Eb T2) (hu2:P.underlying Ea=some d2) (hd2:(match d2 with|.struct _|.array _ _=>true|_=>false)=true) (hi2:(P.info? Ea).map (·.size)=some Eb.size) :
  (results fn tmps).run P w=.ok (.tuple #[.agg cs,.agg Eb]) w:=by
 have hp':tmps[p]?.getD undef=.pointer (some ⟨g,0,none⟩):=by simpa using hp
 have hq':tmps[q]?.getD undef=.pointer (some ⟨g2,0,none⟩):=by simpa using hq
 simp [results,h,hp',hq',asAddr,run_loadVar_row w g T ty cs (0,0) d hg hu hd hi,run_loadVar_row w g2 T2 Ea Eb (0,0) d2 hg2 hu2 hd2 hi2]
namespace bn
theorem QX (v:Value) (w:World):(Instr.typeAssert (.iface 105 v) 20 105 true).run Tryz.prog w=.ok (.tuple #[v,.bool true]) w:=by kernel_rfl
def oW (R F:Nat) (p:Int) (w:World) (e:Exit) (a:Act) (w':World):Prop:=e=.normal∧a.defers=[]∧aH w' R bQ 24∧aH w' F #[.int .i64 2,.int .i64 p] 27∧aB (fun i=>i=R∨i=F) w w'
def kX (R F B:Nat) (p:Int) (w0:World) (cs fs:Array Value):List Value→World→Prop
 | [],u=>aH u R cs 24∧aH u F fs 27∧aB (fun i=>i=R∨i=F) w0 u∧aH u B #[.int .i64 p] 105
 | [_],u=>aH u R bQ 24∧aH u F fs 27∧aB (fun i=>i=R∨i=F) w0 u∧aH u B #[.int .i64 p] 105
 | _,u=>aH u R bQ 24∧aH u F #[.int .i64 2,.int .i64 p] 27∧aB (fun i=>i=R∨i=F) w0 u∧aH u B #[.int .i64 p] 105
theorem kX.b {R F B:Nat} {p:Int} {w0 u:World} {cs fs:Array Value} {vs:List Value} (h:kX R F B p w0 cs fs vs u):aH u B #[.int .i64 p] 105:=by
 match vs,h with
 | [],h=>exact h.2.2.2
 | [_],h=>exact h.2.2.2
 | _::_::_,h=>exact h.2.2.2
set_option maxRecDepth 100000 in
set_option maxHeartbeats 4000000 in
theorem BG (R F:Nat) (cs fs:Array Value) (p:Int) (w:World) (hR:aH w R cs 24) (hcs:cs.size=4) (hF:aH w F fs 27) (hfs:fs.size=2) (hne:R≠F) :
  CallsD Tryz.prog 47 #[.pointer (some ⟨R,0,none⟩),.pointer (some ⟨F,0,none⟩)] (.panicking (Gg p)) w fun e u' w'=>
   e=.returned (.tuple #[])∧u'=.panicking [{ v:=.iface 105 (.agg #[.int .i64 p]),recovered:=true }]∧aH w' R bQ 24∧aH w' F #[.int .i64 2,.int .i64 p] 27∧aB (fun i=>i=R∨i=F) w w':=by
 have hta:=QX;have EW:=hR.lt;have EX:=hF.lt
 obtain⟨c0,c1,c2,c3,rfl⟩:∃ c0 c1 c2 c3,cs=#[c0,c1,c2,c3]:=by
  obtain⟨l⟩:=cs;match l,hcs with
  | [c0,c1,c2,c3],_=>exact⟨_,_,_,_,rfl⟩
 obtain⟨f0,f1,rfl⟩:∃ f0 f1,fs=#[f0,f1]:=by
  obtain⟨l⟩:=fs;match l,hfs with
  | [f0,f1],_=>exact⟨_,_,rfl⟩
 clear hcs hfs;obtain⟨B,hB⟩:∃ B,w.heap.size=B:=⟨_,rfl⟩;have hB0:=aH.made w #[.int .i64 p] 105;rw [hB] at hB0 EW EX;have hR0:=hR.alloc (.cells #[.int .i64 p] 105);have kY:=hF.alloc (.cells #[.int .i64 p] 105);have oH:=(aB.refl (fun i=>i=R∨i=F) w).alloc (.cells #[.int .i64 p] 105);refine callsD_of_wpS Tryz.func47 rfl fun c₀ cs hu=>?_
 unfold Gg at hu;apply wpS_seq
 apply wpS_region
 simp [wpOpsS,go_sem,recoverD,hu,Tryz.ntmps47,Exit.thenS]
 simp only [Array.replicate,List.replicate,List.append_toArray,List.setIfInBounds_toArray,List.set_cons_zero,List.set_cons_succ,List.cons_append,List.nil_append];refine wpS_of_wp (Code.wp_mono (Q:=oW R F p w) ?_ ?_)
 ·rintro e a w1 ⟨rfl,hd,h1,h2,h3⟩
  exact⟨hd,_,rfl,_,results_none rfl _ _ _,rfl,rfl,h1,h2,h3⟩
 clear hu;have HR0:=Z_ hR0;have pM:=Z_ kY;have HX0:=Z_ oH;have KW:=Z_ hB0;clear hR hF hR0 kY oH hB0;unfold oW;go_upto_region 7 with (fail)
 generalize w.alloc (.cells #[.int .i64 p] 105)=u0 at *;refine ah [4,5] (fun i v _=>v=([.agg #[.int .i64 0,.string ⟨#[]⟩,.int .i64 0,.slice none 0 0],.pointer (some ⟨B,0,none⟩),.int .i64 p,.agg #[.int .i64 2,.int .i64 p],undef,undef]:List Value).getD i undef) (kX R F B p w #[c0,c1,c2,c3] #[f0,f1]) (fun _ _=>True) (frame:=?fra) (fun x=>?hfa) mixed (by kernel_rfl) (by kernel_rfl) (fun _ _ _ _ h _=>h) ?h0 ?st ?fin
 case hfa=>
  simp only [chain.aK,chain.fill,chain.bf,chain.aW,jJ,jK,jL,jM,jO,jP,jQ,jR,jS];exact rfl
 case h0=>exact⟨HR0.out.drew,pM.out.drew,HX0.out.drew,KW.out.drew⟩
 case st=>
  iterate 6 (refine ai.cons (fun x vs u hF hm hb hd K' hK'=>?_) ?_;rotate_left)
  exact ai.nil
  ·have HF:=Z_ hF;clear hd hm hb hF;go_simp;exact hK'.out _ _ _ rfl trivial ⟨rfl,HF.out⟩
  ·have HF:=Z_ hF;clear hd hm hb hF;go_simp;exact hK'.out _ _ _ rfl trivial ⟨rfl,HF.out⟩
  ·have y0:x 12=.pointer (some ⟨B,0,none⟩):=(D_ hd 1 :);have hc:=hF.b.cell 0;simp at hc
   have HF:=Z_ hF;clear hd hm hb hF;go_simp;exact hK'.out _ _ _ (by simp only [y0];rfl) trivial ⟨rfl,HF.out⟩
  ·have y0:x 13=.int .i64 p:=(D_ hd 2 :);have HF:=Z_ hF;clear hd hm hb hF;go_simp;exact hK'.out _ _ _ (by simp only [y0];rfl) trivial ⟨rfl,HF.out⟩
  ·have y0:x 11=.agg #[.int .i64 0,.string ⟨#[]⟩,.int .i64 0,.slice none 0 0]:=(D_ hd 0 :);obtain rfl:=kF hm;obtain⟨g1,g2,g3,g4⟩:=(show _∧_ from hF);have hc:=g1.cell;have hf:=g1.frozen;have hl:=g1.lt;have HG:=Z_ (And.intro g1 (And.intro g2 (And.intro g3 g4)));clear hd hm hb hF g1 g2 g3 g4;go_simp;obtain⟨g1,g2,g3,g4⟩:=HG.out;exact hK'.out _ _ undef (by simp only [y0];rfl) trivial ⟨(((g1.set 0 _).set 1 _).set 2 _).set 3 _,(((g2.setOther (p:=⟨R,0,none⟩) (by show F≠R;omega) _).setOther (p:=⟨R,1,none⟩) (by show F≠R;omega) _).setOther (p:=⟨R,2,none⟩) (by show F≠R;omega) _).setOther (p:=⟨R,3,none⟩) (by show F≠R;omega) _,(((g3.setCell (p:=⟨R,0,none⟩) (fun _=>.inl rfl) _).setCell (p:=⟨R,1,none⟩) (fun _=>.inl rfl) _).setCell (p:=⟨R,2,none⟩) (fun _=>.inl rfl) _).setCell (p:=⟨R,3,none⟩) (fun _=>.inl rfl) _,(((g4.setOther (p:=⟨R,0,none⟩) (by show B≠R;omega) _).setOther (p:=⟨R,1,none⟩) (by show B≠R;omega) _).setOther (p:=⟨R,2,none⟩) (by show B≠R;omega) _).setOther (p:=⟨R,3,none⟩) (by show B≠R;omega) _⟩
  ·have y0:x 14=.agg #[.int .i64 2,.int .i64 p]:=(D_ hd 3 :);obtain⟨v0,rfl⟩:=lK hm
   obtain⟨g1,g2,g3,g4⟩:=(show _∧_ from hF);have hc:=g2.cell;have hf:=g2.frozen;have hl:=g2.lt;have HG:=Z_ (And.intro g1 (And.intro g2 (And.intro g3 g4)));clear hd hm hb hF g1 g2 g3 g4;go_simp;obtain⟨g1,g2,g3,g4⟩:=HG.out;exact hK'.out _ _ undef (by simp only [y0];rfl) trivial ⟨(g1.setOther (p:=⟨F,0,none⟩) hne _).setOther (p:=⟨F,1,none⟩) hne _,(g2.set 0 _).set 1 _,(g3.setCell (p:=⟨F,0,none⟩) (fun _=>.inr rfl) _).setCell (p:=⟨F,1,none⟩) (fun _=>.inr rfl) _,(g4.setOther (p:=⟨F,0,none⟩) (by show B≠F;omega) _).setOther (p:=⟨F,1,none⟩) (by show B≠F;omega) _⟩
 case fin=>
  intro x vs w9 hl hF hk;obtain⟨v0,v1,rfl⟩:=CV hl
  obtain⟨g1,g2,g3,g4⟩:=(show _∧_ from hF);clear hk hl;have HG:=Z_ (And.intro g1 (And.intro g2 g3));clear hF g1 g2 g3 g4;go_wp2_with (fail)
  exact HG.out
theorem wE (R F:Nat) (w:World) :
  CallsD Tryz.prog 47 #[.pointer (some ⟨R,0,none⟩),.pointer (some ⟨F,0,none⟩)] .returning w fun e u' w'=>e=.returned (.tuple #[])∧u'=.returning∧w'=w:=by
 refine callsD_of_wpS Tryz.func47 rfl fun c₀ cs hu=>?_
 apply wpS_seq
 apply wpS_region
 simp [wpOpsS,go_sem,recoverD,hu,Tryz.ntmps47,Exit.thenS]
 simp only [Array.replicate,List.replicate,List.append_toArray,List.setIfInBounds_toArray,List.set_cons_zero,List.set_cons_succ,List.cons_append,List.nil_append];refine wpS_of_wp (Code.wp_mono (Q:=fun e a' w'=>e=.normal∧a'.defers=[]∧w'=w) ?_ ?_)
 ·rintro e a w1 ⟨rfl,hd,rfl⟩
  exact⟨hd,.returning,by cases c₀;simp_all,_,results_none rfl _ _ _,rfl,rfl,rfl⟩
 clear hu;go_wp2_with (fail)
end bn
end Go.Proofs.YtpcihajmcejliacGreatDoor
namespace Go.Proofs.YtpcihajmcejliacGreatDoor
open Go.RowKit
def NT.rank:NT→Nat
 | .loop _ _=>1
 | .unary=>4
 | .asked=>1
 | .place _=>1
 | .call _=>1
 | .bound k=>5+(4-k)
 | .expr=>10
 | .args _ _=>11
 | .block=>1
 | .stats _=>2
 | .stat=>1
 | .decl=>1
 | .proc _=>1
 | .params _ _ _=>1
 | .module=>1
 | .imports _ _=>3
 | .decls _ _=>2
namespace bC
theorem aQ {α β : Type} {o:Out α} {f:α→List Tk→Out β} (h1:o≠.out) (h2:∀ x l,o=.got x l→f x l≠.out):o.bind f≠.out:=by
 cases o with
 | out=>exact absurd rfl h1
 | bad l=>intro h;cases h
 | got x l=>exact h2 x l rfl
theorem gX (s:ByteArray) (l:List Tk):dU s l≠.out:=by unfold dU;split<;>intro h<;>cases h
theorem mD (l:List Tk):fJ l≠.out:=by
 cases l with
 | nil=>intro h;cases h
 | cons t r=>
  simp only [fJ,ne_eq];split<;>simp
theorem rW (l:List Tk):iL l≠.out:=by
 unfold iL;refine aQ (mD _) fun s l _=>?_
 split
 ·exact aQ (mD _) fun _ _ _ h=>by cases h
 ·intro h;cases h
theorem lJ (l:List Tk):dF l≠.out:=by
 unfold dF;split
 ·intro h;cases h
 ·exact aQ (gX _ _) fun _ _ _ h=>by cases h
theorem yt (l:List Tk):fD l≠.out:=by
 cases l with
 | nil=>intro h;cases h
 | cons t r=>
  simp only [fD,ne_eq];split<;>simp
theorem mF (x:Nd) (l:List Tk):jY x l≠.out:=aQ (gX _ _) fun _ _ _ h=>by cases h
theorem jb {α : Type} (x:α) (l:List Tk):Out.got x l≠.out:=fun h=>by cases h
theorem Dz:∀ (n:Nat) (X:NT) (l:List Tk),20*l.length+X.rank<n→bJ n X l≠.out:=by
 intro n;induction n with
 | zero=>intro X l h;omega
 | succ n ih=>
  intro X l h;cases X with
  | expr=>simp only [bJ];exact ih _ _ (by simp only [NT.rank] at h ⊢;omega)
  | bound k=>
   simp only [bJ];split
   ·exact ih _ _ (by simp only [NT.rank] at h ⊢;omega)
   ·refine aQ (ih _ _ (by simp only [NT.rank] at h ⊢;omega)) fun x r hx=>?_
    have a:=dJ _ _ _ _ _ hx;exact ih _ _ (by simp only [NT.rank,NT.weak] at h a ⊢;omega)
  | loop k x=>
   simp only [bJ];split
   ·rename_i hk
    have:=Eu hk.1;refine aQ (ih _ _ (by simp only [NT.rank] at h ⊢;omega)) fun y r hy=>?_
    have a:=dJ _ _ _ _ _ hy;split
    ·exact jb _ _
    ·exact ih _ _ (by simp only [NT.rank,NT.weak] at h a ⊢;omega)
   ·exact jb _ _
  | unary=>
   simp only [bJ];split
   ·rename_i hb
    have:=aU hb;exact aQ (ih _ _ (by simp only [NT.rank] at h ⊢;omega)) fun _ _ _=>jb _ _
   split
   ·rename_i hb
    have:=aU hb;exact aQ (ih _ _ (by simp only [NT.rank] at h ⊢;omega)) fun _ _ _=>jb _ _
   split
   ·exact ih _ _ (by simp only [NT.rank] at h ⊢;omega)
   split
   ·exact yt _
   ·refine aQ (rW _) fun s r hs=>?_
    have:=gV hs;split
    ·exact ih _ _ (by simp only [NT.rank] at h ⊢;omega)
    ·exact ih _ _ (by simp only [NT.rank] at h ⊢;omega)
  | asked=>
   simp only [bJ];refine aQ (gX _ _) fun _ r hs=>?_
   have:=aV hs;refine aQ (ih _ _ (by simp only [NT.rank] at h ⊢;omega)) fun _ _ _=>aQ (gX _ _) fun _ _ _=>jb _ _
  | place s=>
   simp only [bJ];split
   ·rename_i hb
    have:=aU hb;refine aQ (ih _ _ (by simp only [NT.rank] at h ⊢;omega)) fun _ _ _=>aQ (gX _ _) fun _ _ _=>jb _ _
   ·exact jb _ _
  | call s=>
   simp only [bJ];refine aQ (gX _ _) fun _ r hs=>?_
   have:=aV hs;exact ih _ _ (by simp only [NT.rank] at h ⊢;omega)
  | args s acc=>
   simp only [bJ];split
   ·exact aQ (gX _ _) fun _ _ _=>jb _ _
   ·refine aQ (ih _ _ (by simp only [NT.rank] at h ⊢;omega)) fun x r hx=>?_
    have a:=dJ _ _ _ _ _ hx;split
    ·rename_i hb
     have:=aU hb;exact ih _ _ (by simp only [NT.rank,NT.weak] at h a ⊢;omega)
    ·exact aQ (gX _ _) fun _ _ _=>jb _ _
  | block=>
   simp only [bJ];refine aQ (gX _ _) fun _ r hs=>?_
   have:=aV hs;exact ih _ _ (by simp only [NT.rank] at h ⊢;omega)
  | stats acc=>
   simp only [bJ];split
   ·exact jb _ _
   ·refine aQ (ih _ _ (by simp only [NT.rank] at h ⊢;omega)) fun x r hx=>?_
    have a:=dJ _ _ _ _ _ hx;exact ih _ _ (by simp only [NT.rank,NT.weak] at h a ⊢;omega)
  | stat=>
   simp only [bJ];simp only [NT.rank] at h;split
   ·refine aQ (lJ _) fun _ r h1=>aQ (mD _) fun _ r2 h2=>aQ (gX _ _) fun _ r3 h3=>?_
    have:=dL h1;have:=ij h2;have:=aV h3
    exact aQ (ih _ _ (by simp only [NT.rank];omega)) fun _ _ _=>mF _ _
   split
   ·rename_i hb
    have:=aU hb;refine aQ (rW _) fun _ r h1=>?_
    have:=gV h1;exact aQ (ih _ _ (by simp only [NT.rank];omega)) fun _ _ _=>mF _ _
   split
   ·rename_i hb
    have:=aU hb;refine aQ (ih _ _ (by simp only [NT.rank];omega)) fun _ _ h1=>?_
    have a:=dJ _ _ _ _ _ h1;refine aQ (ih _ _ (by simp only [NT.rank];omega)) fun _ _ h2=>?_
    have b:=dJ _ _ _ _ _ h2;split
    ·rename_i hb2
     have:=aU hb2;exact aQ (ih _ _ (by simp only [NT.rank];omega)) fun _ _ _=>jb _ _
    ·exact jb _ _
   split
   ·rename_i hb
    have:=aU hb;refine aQ (ih _ _ (by simp only [NT.rank];omega)) fun _ _ h1=>?_
    have a:=dJ _ _ _ _ _ h1;exact aQ (ih _ _ (by simp only [NT.rank];omega)) fun _ _ _=>jb _ _
   split
   ·rename_i hb
    have:=aU hb;refine aQ (lJ _) fun _ r h1=>?_
    have:=dL h1;exact aQ (ih _ _ (by simp only [NT.rank];omega)) fun _ _ _=>mF _ _
   split
   ·rename_i hb
    have:=aU hb;refine aQ (lJ _) fun _ r h1=>aQ (rW _) fun _ r2 h2=>?_
    have:=dL h1;have:=gV h2
    exact aQ (ih _ _ (by simp only [NT.rank];omega)) fun _ _ _=>mF _ _
   split
   ·rename_i hb
    have:=aU hb;exact aQ (ih _ _ (by simp only [NT.rank];omega)) fun _ _ _=>mF _ _
   ·refine aQ (rW _) fun _ r h1=>?_
    have:=gV h1;refine aQ (ih _ _ (by simp only [NT.rank];omega)) fun _ r2 h2=>?_
    have a:=dJ _ _ _ _ _ h2;refine aQ (gX _ _) fun _ r3 h3=>?_
    have:=aV h3;exact aQ (ih _ _ (by simp only [NT.rank];omega)) fun _ _ _=>mF _ _
  | decl=>
   simp only [bJ];simp only [NT.rank] at h
   obtain⟨l2,hl2,hle⟩:∃ l2,(if fO l [rJ]=true then l.tail else l)=l2∧l2.length≤l.length:=by
    refine⟨_,rfl,?_⟩
    split
    ·rename_i hb;have:=aU hb;omega
    ·exact Nat.le_refl _
   rw [hl2];split
   ·rename_i hb
    have:=aU hb;exact ih _ _ (by simp only [NT.rank];omega)
   ·refine aQ (lJ _) fun _ r h1=>aQ (mD _) fun _ r2 h2=>?_
    split
    ·exact aQ (yt _) fun _ _ _=>aQ (gX _ _) fun _ _ _=>mF _ _
    ·exact mF _ _
  | proc dX=>
   simp only [bJ];simp only [NT.rank] at h;refine aQ (mD _) fun _ r h1=>aQ (gX _ _) fun _ r2 h2=>?_
   have:=ij h1;have:=aV h2
   exact ih _ _ (by simp only [NT.rank];omega)
  | params s dX acc=>
   simp only [NT.rank] at h
   have done:∀ (acc:List Nd) (l2:List Tk),l2.length≤l.length→((dU dI l2).bind fun _ l=>(dF l).bind fun b l=>
     if fO l [ou]=true then (dF l.tail).bind fun g l=>(bJ n .block l).bind fun x l=>Out.got (Nd.mk 4 s (dX+b+(4+4*g)) (acc ++ [x])) l
     else (bJ n .block l).bind fun x l=>Out.got (Nd.mk 4 s (dX+b) (acc ++ [x])) l)≠Out.out:=by
    intro acc l2 hle;refine aQ (gX _ _) fun _ r h1=>aQ (lJ _) fun _ r2 h2=>?_
    have:=aV h1;have:=dL h2
    split
    ·rename_i hb
     have:=aU hb;refine aQ (lJ _) fun _ r3 h3=>?_
     have:=dL h3;exact aQ (ih _ _ (by simp only [NT.rank];omega)) fun _ _ _=>jb _ _
    ·exact aQ (ih _ _ (by simp only [NT.rank];omega)) fun _ _ _=>jb _ _
   simp only [bJ];split
   ·exact done _ _ (Nat.le_refl _)
   ·refine aQ (lJ _) fun _ r h1=>aQ (mD _) fun _ r2 h2=>?_
    have:=dL h1;have:=ij h2
    split
    ·rename_i hb
     have:=aU hb;exact ih _ _ (by simp only [NT.rank];omega)
    ·exact done _ _ (by omega)
  | module=>
   simp only [bJ];simp only [NT.rank] at h;refine aQ (gX _ _) fun _ r h1=>aQ (mD _) fun _ r2 h2=>aQ (gX _ _) fun _ r3 h3=>?_
   have:=aV h1;have:=ij h2;have:=aV h3
   exact ih _ _ (by simp only [NT.rank];omega)
  | imports s acc=>
   simp only [bJ];simp only [NT.rank] at h;split
   ·rename_i hb
    have:=aU hb;refine aQ (mD _) fun _ r2 h2=>aQ (gX _ _) fun _ r3 h3=>?_
    have:=ij h2;have:=aV h3
    exact ih _ _ (by simp only [NT.rank];omega)
   ·exact ih _ _ (by simp only [NT.rank];omega)
  | decls s acc=>
   simp only [bJ];simp only [NT.rank] at h;split
   ·exact jb _ _
   ·refine aQ (ih _ _ (by simp only [NT.rank];omega)) fun x r hx=>?_
    have a:=dJ _ _ _ _ _ hx;exact ih _ _ (by simp only [NT.rank,NT.weak] at a ⊢;omega)
end bC
end Go.Proofs.YtpcihajmcejliacGreatDoor
namespace Go.Proofs.YtpcihajmcejliacGreatDoor
open Go.RowKit
def tq (s:ByteArray) (t:Tok):Tk:=⟨t.1,s.extract t.2.1 (t.2.1+t.2.2),t.2.1⟩
def kL (s:ByteArray) (l:List Tok):List Tk:=l.map (tq s)
namespace Jz
theorem DN {l:List UInt8} (h:gB l=0):mQ l=true∧decFrom 0 l<9223372036854775808:=by
 unfold gB at h;split at h
 ·cases h
 ·rename_i h1
  split at h
  ·cases h
  ·split at h
   ·cases h
   ·rename_i h3
    exact⟨by simpa using h1,by omega⟩
theorem JW (l:List UInt8):(l.take (runN dS l)).all (fun c=>dS c.toNat)=true:=by
 rw [again.Ju,List.all_eq_true];intro x hx;have:=List.all_takeWhile (l:=l) (p:=fun c=>dS c.toNat);rw [List.all_eq_true] at this;exact this x hx
theorem DR (s:ByteArray):∀ (T:List Tok) (j:Nat) (h:j<T.length) (i:Nat) (_:i<3),(iH s T)[j*3+i]? = (Tok.cells s T[j])[i]?:=by
 intro T;induction T with
 | nil=>intro j h;cases h
 | cons t r ih=>
  intro j h i hi;have hl:(Tok.cells s t).length=3:=rfl;have e:iH s (t::r)=Tok.cells s t++iH s r:=by simp [iH]
  rw [e];cases j with
  | zero=>rw [List.getElem?_append_left (by omega)];simp
  | succ j=>
   rw [List.getElem?_append_right (by omega),show (j+1)*3+i-(Tok.cells s t).length=j*3+i by omega,ih j (by simpa using h) i hi];simp
theorem Xd (s:ByteArray) (hs:s.size≤3000) (t:Tok) (h:again.Good s.data.toList t):jm (tq s t):=by
 obtain⟨k,p,n⟩:=t;obtain⟨h1,h2,h3⟩:=h;simp only at h1 h2 h3;have hlen:s.data.toList.length=s.size:=by rw [Array.length_toList];rfl
 have htx:(tq s (k,p,n)).text.data.toList=(s.data.toList.drop p).take n:=lex.iY s p n
 have hsz:(tq s (k,p,n)).text.size≤3000:=by
  have e:(tq s (k,p,n)).text.size=(tq s (k,p,n)).text.data.toList.length:=by rw [Array.length_toList];rfl
  rw [e,htx,List.length_take,List.length_drop];omega
 obtain⟨c,r,hm⟩:∃ c r,s.data.toList.drop p=c::r:=by
  cases hd:s.data.toList.drop p with
  | nil=>
   have:=congrArg List.length hd;rw [List.length_drop] at this;simp only [List.length_nil] at this;omega
  | cons c r=>exact⟨c,r,rfl⟩
 rw [hm] at h1 htx;simp only [tokF] at h1;split at h1
 ·rename_i hl
  simp only [Prod.mk.injEq] at h1;obtain⟨rfl,rfl,h4⟩:=h1
  have hn:runN dS (c::r)≤16:=by
   rcases Nat.lt_or_ge 16 (runN dS (c::r)) with h5|h5
   ·rw [if_pos h5] at h4;cases h4
   ·exact h5
  have hpos:1≤runN dS (c::r):=by simp [runN,dS,hl]
  refine⟨⟨by simp [tq],by simp [tq]⟩,hsz,fun _=>?_,fun e=>(by cases e),fun e=>(by cases e)⟩
  rw [htx];unfold jD;rw [JW,Bool.and_true,Bool.and_eq_true,decide_eq_true_eq,List.length_take];refine⟨?_,by omega⟩
  obtain⟨q,hq⟩:∃ q,runN dS (c::r)=q+1:=⟨runN dS (c::r)-1,by omega⟩;rw [hq,List.take_succ_cons];exact hl
 ·split at h1
  ·rename_i hl hd
   simp only [Prod.mk.injEq] at h1;obtain⟨rfl,rfl,h4⟩:=h1;have hpos:1≤runN dS (c::r):=by simp [runN,dS,hd]
   refine⟨⟨by simp [tq],by simp [tq]⟩,hsz,fun e=>(by cases e),fun _=>?_,fun e=>(by cases e)⟩
   rw [htx];obtain⟨h5,h6⟩:=DN h4;refine⟨h5,?_,h6⟩
   obtain⟨q,hq⟩:∃ q,runN dS (c::r)=q+1:=⟨runN dS (c::r)-1,by omega⟩;rw [hq,List.take_succ_cons];simp
  ·rename_i hl hd
   simp only [Prod.mk.injEq] at h1;obtain⟨rfl,rfl,h4⟩:=h1;refine⟨⟨by simp [tq],by simp [tq]⟩,hsz,fun e=>(by cases e),fun e=>(by cases e),fun _=>?_⟩
   rw [htx];unfold jD
   have:headB ((c::r).take (nO (c::r)))=false:=by
    cases hs:nO (c::r) with
    | zero=>rfl
    | succ q=>
     rw [List.take_succ_cons];simpa [headB] using hl
   rw [this];rfl
theorem wC (s:ByteArray) (T:List Tok) (a:Nat) (h:iP s.data.toList=(T,0,a)):s.size≤3000∧(∀ t∈kL s T,jm t)∧T.length≤3001:=by
 have hlen:s.data.toList.length=s.size:=by rw [Array.length_toList];rfl
 have h0:=h;rw [iP] at h;split at h
 ·cases h
 ·rename_i hle
  obtain⟨h1,h2⟩:=again.xW s.data.toList (s.data.toList.length+1) (fC false s.data.toList) [] (by simp);rw [h] at h1;refine⟨by omega,fun t ht=>?_,?_⟩
  ·obtain⟨t',ht',rfl⟩:=List.mem_map.1 ht
   exact Xd s (by omega) t' (h1 t' ht')
  ·have:=lexTells.BB (s.data.toList.length+1) s.data.toList (fC false s.data.toList) []
   rw [h] at this;simp only [List.length_nil] at this;omega
theorem Qp {w:World} {B:Nat} {s:ByteArray} {T:List Tok} {v:Value} (h:w.ownsRow B 195 3 v T.length (iH s T)) (hok:∀ t∈kL s T,jm t):∃ a c,v=.slice a T.length c∧Bh w a 0 (kL s T):=by
 have h9:=h;obtain⟨h1,h2⟩:=h;rcases h2 with ⟨rfl,h0⟩|⟨g,cap,cur,rfl,hb,hh,-⟩
 ·refine⟨none,0,by rw [h0],fun j hj=>?_⟩
  simp [kL,h0] at hj
 ·refine⟨_,cap,rfl,fun j hj=>⟨g,0,rfl,(Array.getElem?_eq_some_iff.1 hh).1,?_⟩⟩
  have hjl:j<T.length:=by simpa [kL] using hj
  have e:(kL s T)[j]=tq s T[j]:=by simp [kL]
  have hcell:∀ i,i<3→w.cell? ⟨g,0+(0+j)*3+i,none⟩=(Tok.cells s T[j])[i]?:=fun i hi=>by
   rw [show 0+(0+j)*3+i=j*3+i by omega,h9.cellAt (j*3+i) (by omega)];have:=DR s T j hjl i hi;exact this
  rw [e];exact⟨(hcell 0 (by decide)).trans rfl,(hcell 1 (by decide)).trans rfl,(hcell 2 (by decide)).trans rfl,by rw [←e];exact hok _ (List.getElem_mem hj)⟩
end Jz
end Go.Proofs.YtpcihajmcejliacGreatDoor
