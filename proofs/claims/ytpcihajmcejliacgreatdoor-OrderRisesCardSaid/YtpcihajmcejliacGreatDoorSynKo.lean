/- The walk of the program's parser: a block. The walk of the program's parser: modules. The walk of syntax.Parse: its recover, its two results. The parser in plain Lean: enough fuel always; and what scanning a text gives. What scanning a text gives the parser. -/
import Derived.Deep.LoopGhost
import Derived.Defers
import Derived.Recover
import Derived.Test.YtpcihajmcejliacGreatDoorSynMo
import Derived.Test.YtpcihajmcejliacGreatDoorSyn7o
import Derived.Test.YtpcihajmcejliacGreatDoorOfMo
import Derived.Test.YtpcihajmcejliacGreatDoorNameo
namespace Go.Proofs.YtpcihajmcejliacGreatDoor
open Go.RowKit
namespace bu
set_option maxRecDepth 100000 in
set_option maxHeartbeats 4000000 in
theorem tV {n:Nat} (ih:∀ m,m≤n→Good m) {W w:World} {S E:Nat} {l:List Tk} (h:bz W w S E l) (hm:cE W) (hne:bJ (n+1) .block l≠.out) :
  Calls Tryz.prog 229 #[.pointer (some ⟨S,0,none⟩)] w (eC (VN w.heap.size) W w S E (bJ (n+1) .block l)):=by
 obtain⟨T,hT⟩:∃ T,bJ (n+1) .block l=T:=⟨_,rfl⟩;rw [hT] at hne ⊢;simp only [bJ] at hT;have HT:=Z_ hT;have h_:=Z_ hne;have HM:=Z_ hm;have hSl:=h.lt;have h1:=h.alloc (.cells bK 24);have h2:=h1.alloc (.cells #[.string yS] 9);have HN:=Z_ (b_ h2 (w.heap.size+1) 1 yS ((aC.made2 w (.cells bK 24) #[.string yS] 9).cell 0));have Bi:Hid (aB (fun i=>i=S) w ((w.alloc (.cells bK 24)).alloc (.cells #[.string yS] 9))):=Z_ (((aB.refl _ _).alloc _).alloc _);have QG:=Z_ ((aC.made w bK 24).alloc (.cells #[.string yS] 9));obtain⟨A,hA⟩:∃ A,w.heap.size=A:=⟨_,rfl⟩;rw [hA] at HN QG;clear h h1 h2 hm hne hT;unfold bK at HN Bi QG;go_enter Tryz.func229,Tryz.ntmps229
 go_wp2_with fail
 refine HN.out.mono ?_
 rintro e w1 hr;obtain⟨DV,⟨l1,hp,rfl⟩|⟨x1,l1,v1,hp,rfl,rfl,hP1⟩⟩:=hr.cases (di _ _)
 ·have HF:=Z_ (Out.aF HT.out hp)
  have MW:=Z_ (Bi.out.then DV);clear hr hp DV;go_wp2_with fail
  exact⟨rfl,eC.fails MW.out HF.out⟩
 ·have HT1:=Z_ (Out.aG HT.out hp)
  have MW:=Z_ (Bi.out.then DV);have HA1:=Z_ (QG.out.aK DV (by omega));have OC:=Z_ hP1;clear hr hp DV hP1 HN Bi QG HT;go_wp2_with fail
  refine(dH _ _ _ _ _ _ _).mono ?_
  rintro e w2 ⟨rfl,hE2⟩;have oU:=(OC.out.extend hE2).alloc (.cells #[.int .i64 6,.string ⟨#[]⟩,.int .i64 0,.slice none 0 0] 24);have hAw:=(HA1.out.ext hE2).lt;have hB2:=iU.start (kind:=6) (text:=⟨#[]⟩) (num:=0) oU ((MW.out.ext hE2).alloc _) ((HA1.out.ext hE2).alloc _) (aC.made w2 _ _) hSl (by omega) hAw (EJ oU);have HB2:=Z_ hB2;clear oU hE2 hB2 HA1 OC MW;obtain⟨N,hN⟩:∃ N,w2.heap.size=N:=⟨_,rfl⟩;rw [hN] at HB2;go_wp2_with fail
  generalize w2.alloc (.cells #[.int .i64 6,.string ⟨#[]⟩,.int .i64 0,.slice none 0 0] 24)=w3 at *;go_loopg [] n (fun k wr=>∃ l acc row,k≤n∧Hid (bJ k (.stats acc) l=T)∧Hid (iU W w wr S E A N l 6 ⟨#[]⟩ 0 row row acc))
  case atStart=>exact⟨l1,[],.slice none 0 0,Nat.le_refl _,HT1,HB2⟩
  case round=>
   obtain⟨lr,acc,row,hkn,hTr,HB⟩:=hrel;cases gk with
   | zero=>exact absurd hTr.out.symm h_.out
   | succ m=>
    have Ue:=hTr.out;simp only [bJ] at Ue;have HTR:=Z_ Ue;have HH:=Z_ (dh HB.out.pr FY);have gu:=Z_ (fun (h:fK lr [FY]=true)=>bF.aV h);generalize fK lr [FY]=R at *;clear hTr Ue;go_wp2_with fail
    refine HH.out.mono ?_
    rintro e w4 ⟨rfl,Nj,Uf⟩;cases R with
    | true=>
     have HB4:=Z_ (HB.out.call Nj (by simpa using Uf:bz W w4 S E lr.tail) (by have:=gu.out rfl;omega));have HT4:=Z_ (show T=.got (.mk 6 ⟨#[]⟩ 0 acc) lr.tail by have:=HTR.out;rw [if_pos rfl] at this;exact this.symm);clear Nj Uf HB;obtain⟨ra,rc,rfl⟩:=HB4.out.slice;have c0:=HB4.out.nd.cell 0;have c1:=HB4.out.nd.cell 1;have c2:=HB4.out.nd.cell 2;have c3:=HB4.out.nd.cell 3;have r0:=HB4.out.res.cell;have rf:=HB4.out.res.frozen;have rl:=HB4.out.res.lt;unfold bK at r0;simp at c0 c1 c2 c3
     go_wp2_with fail
     refine bG rfl rfl rfl ((((HB4.out.res.set 0 _).set 1 _).set 2 _).set 3 _) Tryz.underlying24 rfl (by kernel_rfl) ?_
     exact HB4.out.ret (by decide) HT4.out _ _ _ _
    | false=>
     have HB:=Z_ (HB.out.call Nj (by simpa using Uf:bz W w4 S E lr) (Nat.le_refl _));have HT4:=Z_ (show (bJ m .stat lr).bind (fun x l=>bJ m (.stats (acc ++ [x])) l)=T by have:=HTR.out;simpa using this);clear Nj Uf HTR gu HH;go_upto_region 4 with (fail)
     refine aj [3,4,5,7] (fun i v _=>v=([.pointer (some ⟨N,3,none⟩),row,.pointer (some ⟨S,0,none⟩),undef,undef,undef,.pointer (some ⟨N,3,none⟩),undef]:List Value).getD i undef) (fJ W w S E A N lr 6 ⟨#[]⟩ 0 row acc (bJ m .stat lr)) (fun _ _=>True) (frame:=?ES) (fun x=>?rK) mixed (by kernel_rfl) (by kernel_rfl) (fun _ _ _ _ h _=>h) ?ET ?EU ?rL
     case rK=>
      simp only [chain.aN,chain.fill,chain.bf,chain.aY,jW,jX,jY,jZ,kz,kC,kD,kE,kF];exact rfl
     case ET=>exact HB.out.extend (aB.refl _ _).drew
     case EU=>
      iterate 8 (refine ak.cons (fun x vs u hF hm hb hd K' hK'=>?_) ?_;rotate_left)
      exact ak.nil
      ·have HF:=Z_ hF;clear hd hm hb hF;go_simp;exact hK'.out _ _ _ rfl trivial ⟨rfl,HF.out⟩
      ·have y0:x 11=.pointer (some ⟨N,3,none⟩):=(D_ hd 0 :);have hc:=hF.cell (by have:=hb 2 _ (by decide) rfl (by kernel_rfl);omega);have HF:=Z_ hF;clear hd hm hb hF;go_simp;exact hK'.out _ _ _ (by simp only [y0];rfl) trivial ⟨rfl,HF.out⟩
      ·have HF:=Z_ hF;clear hd hm hb hF;go_simp;exact hK'.out _ _ _ rfl trivial ⟨rfl,HF.out⟩
      ·have y0:x 13=.pointer (some ⟨S,0,none⟩):=(D_ hd 2 :);obtain rfl:=kS hm;have HF:=Z_ (show iU _ _ _ _ _ _ _ _ _ _ _ _ _ _ from hF);clear hd hm hb hF;have jM:=Z_ (ih m (by omega) .stat _ _ HF.out.pr HM.out rfl trivial (Out.bh HT4.out h_.out));go_simp;refine jM.out.mono ?_
       rintro e u2 hr;obtain⟨hC,⟨lb,hp,rfl⟩|⟨xn,ln,v,hp,rfl,hv,hP⟩⟩:=hr.cases (Out.bh HT4.out h_.out)
       ·have HE:=Z_ (Out.aF HT4.out hp)
        have HC:=Z_ (HF.out.aK.then hC);clear hr hp hC hK' jM;go_wp2_with fail
        exact⟨rfl,eC.fails HC.out HE.out⟩
       ·exact hK'.out _ _ _ (by simp only [y0];rfl) trivial (fQ HF.out hC hp hv hP (bF.dO _ _ _ _ _ hp))
      ·obtain⟨v0,rfl⟩:=mD hm
       have y0:x 14=v0:=((D_ hd 3) 14 (by kernel_rfl) :);have hcl:∃ a b c d,v0=.agg #[a,b,c,d]:=by obtain⟨xn,ln,_,_,_,hx⟩:=hF;obtain⟨a,b,c,d,h,_⟩:=bD hx;exact⟨a,b,c,d,h⟩
       obtain⟨a0,b0,c0,d0,rfl⟩:=hcl;have HF:=Z_ hF;clear hd hm hb hF;go_simp;exact hK'.out _ _ _ (by simp only [y0];rfl) trivial (dU HF.out rfl)
      ·obtain⟨v0,v1,rfl⟩:=tN hm
       have y0:x 12=row:=(D_ hd 1 :);have y1:x 15=v1:=((D_ hd 4) 15 (by kernel_rfl) :);have hF2:=hF;obtain⟨xn,ln,hT1,aO,hfew,hx,gg,rfl,hgb,hgr⟩:=hF2;obtain⟨us,hu1,ho,hu3⟩:=aO.grow.ex;have hlt:=aO.lt;obtain⟨iW,iY,hz0,hz1,hz2⟩:=aW eU;refine wp_append_lies _ _ _ 22 rfl (N+1) 24 iW (.agg #[.int .i64 0,.string ⟨#[]⟩,.int .i64 0,.slice none 0 0]) 4 56 Tryz.underlying22 iY hz0 hz1 hz2 rfl (by decide) row acc.length (us.flatMap fun u=>u.cells.toList) y0 ho ⟨gg,0,none⟩ 1 1 v0.cells.toList y1 (by rw [Array.length_toList,fB hx]) ?_ (by obtain⟨a,b,c,d,e,e2,p1,p2,p3,p4⟩:=bD hx;rw [e2];intro q hq;simp at hq;rcases hq with rfl|rfl|rfl|rfl<;>assumption) (by decide) (by unfold maxLen;omega) (by omega) (by omega) u.heap.size rfl ?_
       ·intro j q hj;have e:(⟨gg,0,none⟩:Addr).add j=⟨gg,j,none⟩:=(by unfold Addr.add;split<;>simp_all);rw [e,hgb.cell];simpa using hj
       ·intro g9 c9 w9 ju iZ kU uI
        exact hK'.out _ _ _ rfl trivial (push_append hF hu1 hu3 ju iZ kU)
      ·have HF:=Z_ hF;clear hd hm hb hF;go_simp;exact hK'.out _ _ _ rfl trivial ⟨rfl,HF.out⟩
      ·obtain⟨v0,v1,v2,rfl⟩:=zF hm
       have y0:x 17=.pointer (some ⟨N,3,none⟩):=(D_ hd 6 :);have y1:x 16=v2:=((D_ hd 5) 16 (by kernel_rfl) :);have hF2:=hF;obtain⟨xn,ln,hT1,aO,gg,cc,rfl⟩:=hF2;have hc:=aO.nd.cell 3;have hf:=aO.nd.frozen 3;have hl:=aO.lt;simp at hc
       have HF:=Z_ hF;clear hd hm hb hF aO hT1;go_simp;exact hK'.out _ _ undef (by simp only [y0,y1];rfl) trivial (dV HF.out)
     case rL=>
      intro x vs w9 hl hF hk;obtain⟨v0,v1,v2,v3,rfl⟩:=zG hl
      obtain⟨xn,ln,hT1,jV⟩:=hF;clear hk hl;have lu:=Z_ (Out.aG HT4.out hT1.out);have HB9:=Z_ jV;clear hT1 jV;go_wp2_with fail
      go_roundg m
      case rel=>exact⟨ln,acc ++ [xn],v2,by omega,lu,HB9⟩
      case measure=>omega
end bu
end Go.Proofs.YtpcihajmcejliacGreatDoor
namespace Go.Proofs.YtpcihajmcejliacGreatDoor
open Go.RowKit
namespace bu
set_option maxRecDepth 100000 in
set_option maxHeartbeats 4000000 in
theorem Fa {n:Nat} (ih:∀ m,m≤n→Good m) {W w:World} {S E:Nat} {l:List Tk} (h:bz W w S E l) (hm:cE W) (hne:bJ (n+1) (.module) l≠.out) :
  Calls Tryz.prog 48 #[.pointer (some ⟨S,0,none⟩)] w (eC (VN w.heap.size) W w S E (bJ (n+1) (.module) l)):=by
 obtain⟨T,hT⟩:∃ T,bJ (n+1) (.module) l=T:=⟨_,rfl⟩;rw [hT] at hne ⊢;simp only [bJ] at hT;have HT:=Z_ hT;have h_:=Z_ hne;have HM:=Z_ hm;have aA:Hid (At W w (w.alloc (.cells #[.int .i64 0,.string ⟨#[]⟩,.int .i64 0,.slice none 0 0] 24)) S E w.heap.size l):=Z_ (At.start h);obtain⟨A,hA⟩:∃ A,w.heap.size=A:=⟨_,rfl⟩;rw [hA] at aA;have Pj:S<A:=by have:=h.lt;omega
 clear h hm hne hT;go_enter Tryz.func48,Tryz.ntmps48
 go_upto_region 1 with (fail)
 generalize w.alloc (.cells #[.int .i64 0,.string ⟨#[]⟩,.int .i64 0,.slice none 0 0] 24)=u0 at *;have HN:=Z_ (b_ (aA.out.pr.alloc (.cells #[.string sK] 9)) u0.heap.size 1 sK ((aC.made u0 #[.string sK] 9).cell 0));have eP:=(aB.refl (fun _=>False) u0).alloc (.cells #[.string sK] 9);replace aA:=Z_ (aA.out.extend eP);clear eP;go_wp2_with fail
 refine HN.out.mono ?_
 rintro e u1 hr;obtain⟨hC,⟨lb,hp,rfl⟩|⟨_,l1,_,hp,rfl,rfl,hP⟩⟩:=hr.cases (di _ _)
 ·have HF:=Z_ (Out.aF HT.out hp)
  have HC:=Z_ (aA.out.aK.then hC);clear hr hp hC;go_wp2_with fail
  exact⟨rfl,eC.fails HC.out HF.out⟩
 replace HT:=Z_ (Out.aG HT.out hp);replace aA:=Z_ (aA.out.call hC hP);clear hr hp hC hP HN;have HN:=Z_ (name_any aA.out.pr HM.out);go_wp2_with fail
 refine HN.out.mono ?_
 rintro e u2 hr;obtain⟨hC,⟨lb,hp,rfl⟩|⟨s2,l2,v,hp,rfl,⟨rfl,hs⟩,hP⟩⟩:=hr.cases (iI _)
 ·have HF:=Z_ (Out.aF HT.out hp)
  have HC:=Z_ (aA.out.aK.then hC);clear hr hp hC;go_wp2_with fail
  exact⟨rfl,eC.fails HC.out HF.out⟩
 replace HT:=Z_ (Out.aG HT.out hp);replace aA:=Z_ (aA.out.call hC hP);have mM:=Z_ hs;clear hr hp hC hP HN;clear hs;generalize s2=s at *;go_wp2_with fail
 refine(dH _ _ _ _ _ _ _).mono ?_
 rintro e u3 ⟨rfl,hE⟩;replace aA:=Z_ (aA.out.extend hE);have HB:=Z_ ((aA.out.alloc (.cells #[.int .i64 (1),.string s,.int .i64 (0),.slice none 0 0] 24)).U7 (aC.made u3 _ _) aA.out.lt);obtain⟨N,hN⟩:∃ N,u3.heap.size=N:=⟨_,rfl⟩;rw [hN] at HB;clear hE aA;go_upto_region 3 with (fail)
 generalize u3.alloc (.cells #[.int .i64 (1),.string s,.int .i64 (0),.slice none 0 0] 24)=v0 at *;have aA:=Z_ HB.out.at;have HN:=Z_ (b_ (aA.out.pr.alloc (.cells #[.string cZ] 9)) v0.heap.size 1 cZ ((aC.made v0 #[.string cZ] 9).cell 0));have eP:=(aB.refl (fun _=>False) v0).alloc (.cells #[.string cZ] 9);replace HB:=Z_ (HB.out.extend eP);replace aA:=Z_ HB.out.at;clear eP;go_wp2_with fail
 refine HN.out.mono ?_
 rintro e u4 hr;obtain⟨hC,⟨lb,hp,rfl⟩|⟨_,l4,_,hp,rfl,rfl,hP⟩⟩:=hr.cases (di _ _)
 ·have HF:=Z_ (Out.aF HT.out hp)
  have HC:=Z_ (aA.out.aK.then hC);clear hr hp hC;go_wp2_with fail
  exact⟨rfl,eC.fails HC.out HF.out⟩
 replace HT:=Z_ (Out.aG HT.out hp);replace HB:=Z_ (HB.out.call hC hP (by have:=bF.aZ hp;omega));replace aA:=Z_ HB.out.at;clear hr hp hC hP HN;go_wp2_with fail
 go_loopg [] n (fun k wr=>∃ l2 acc row,k≤n∧Hid (bJ k (.imports s acc) l2=T)∧Hid (iU W w wr S E A N l2 1 s 0 row row acc))
 case atStart=>exact⟨l4,[],.slice none 0 0,Nat.le_refl _,HT,HB⟩
 clear HT HB aA
 case round=>
  obtain⟨lr,acc,row,hkn,HT,HB⟩:=hrel;cases gk with
  | zero=>exact absurd HT.out.symm h_.out
  | succ m=>
   have HT0:=HT.out;clear HT;simp only [bJ] at HT0;have HT:=Z_ HT0;clear HT0;have aA:=Z_ HB.out.at;have HH:=Z_ (dh aA.out.pr vS);have gu:=Z_ (fun (h:fK lr [vS]=true)=>bF.aV h);generalize fK lr [vS]=R at *;go_wp2_with fail
   refine HH.out.mono ?_
   rintro e u5 ⟨rfl,hC,hP⟩;cases R with
   | false=>
    replace hP:bz W u5 S E lr:=by simpa using hP
    have HT0:=HT.out;clear HT;simp only [Bool.false_eq_true,↓reduceIte] at HT0;have HT:=Z_ HT0;clear HT0;replace HB:=Z_ (HB.out.call hC hP (Nat.le_refl _));replace aA:=Z_ HB.out.at;clear hC hP HH gu;go_wp2_with fail
    go_loopg [] m (fun k wr=>∃ l2 acc row,k≤m∧Hid (bJ k (.decls s acc) l2=T)∧Hid (iU W w wr S E A N l2 1 s 0 row row acc))
    case atStart=>exact⟨lr,acc,row,Nat.le_refl _,HT,HB⟩
    clear HT HB aA
    case round=>
     obtain⟨ld,acc,row,hkm,HT,HB⟩:=hrel;cases gk with
     | zero=>exact absurd HT.out.symm h_.out
     | succ j=>
      have HT0:=HT.out;clear HT;simp only [bJ] at HT0;have HT:=Z_ HT0;clear HT0;have aA:=Z_ HB.out.at;obtain⟨ta,tn,tc,tk,Je,hlk,htn⟩:=xu aA.out.pr;have h0:=Je.cell 0;have h1:=Je.cell 1;simp at h0 h1
      have hSf:=Je.frozen;have hSl:=Je.lt;cases ld with
      | nil=>
       have HT0:=HT.out;clear HT;simp only [List.length_nil,↓reduceIte] at HT0;have HT:=Z_ HT0;clear HT0;simp only [List.length_nil,Nat.add_zero] at hlk;subst hlk;clear Je;go_wp2_with fail
       go_quiet (fail)
       replace HB:=Z_ (HB.out.extend ((aB.refl _ _).drewN nq));generalize World.drewN _ nq=w6 at *;clear h0 h1 hSf hSl;obtain⟨ra,rn,rc,hrow⟩:=HB.out.slice3
       first|subst hrow|clear hrow
       have c0:=HB.out.nd.cell 0;have c1:=HB.out.nd.cell 1;have c2:=HB.out.nd.cell 2;have c3:=HB.out.nd.cell 3;have r0:=HB.out.res.cell;have rf:=HB.out.res.frozen;have rl:=HB.out.res.lt;unfold bK at r0;simp at c0 c1 c2 c3
       go_wp2_with fail
       refine bG rfl rfl rfl ((((HB.out.res.set 0 _).set 1 _).set 2 _).set 3 _) Tryz.underlying24 rfl (by kernel_rfl) ?_
       exact HB.out.ret (by have:=mM.out;omega) (HT.out.symm) _ _ _ _
      | cons t r=>
       have HT0:=HT.out;clear HT;simp only [List.length_cons,Nat.add_one_ne_zero,↓reduceIte] at HT0;have HT:=Z_ HT0;clear HT0;have al8:(tk:Int)<(tn:Int):=by simp only [List.length_cons] at hlk;omega
       clear Je;go_wp2_with fail
       go_quiet (fail)
       replace HB:=Z_ (HB.out.extend ((aB.refl _ _).drewN nq));generalize World.drewN _ nq=w6 at *;replace aA:=Z_ HB.out.at;clear h0 h1 hSf hSl;go_upto_region 8 with (fail)
       refine aj [3,4,5,7] (fun i v _=>v=([.pointer (some ⟨N,3,none⟩),row,.pointer (some ⟨S,0,none⟩),undef,undef,undef,.pointer (some ⟨N,3,none⟩),undef]:List Value).getD i undef) (fJ W w S E A N (t::r) 1 s 0 row acc (bJ j .decl (t::r))) (fun _ _=>True) (frame:=?Es) (fun x=>?rD) mixed (by kernel_rfl) (by kernel_rfl) (fun _ _ _ _ h _=>h) ?Et ?Eu ?rE
       case rD=>
        simp only [chain.aN,chain.fill,chain.bf,chain.aY,jW,jX,jY,jZ,kz,kC,kD,kE,kF];exact rfl
       case Et=>exact HB.out.extend (aB.refl _ _).drew
       case Eu=>
        iterate 8 (refine ak.cons (fun x vs u hF hm hb hd K' hK'=>?_) ?_;rotate_left)
        exact ak.nil
        ·have HF:=Z_ hF;clear hd hm hb hF;go_simp;exact hK'.out _ _ _ rfl trivial ⟨rfl,HF.out⟩
        ·have y0:x 36=.pointer (some ⟨N,3,none⟩):=(D_ hd 0 :);have hc:=hF.cell (by have:=hb 2 _ (by decide) rfl (by kernel_rfl);omega);have HF:=Z_ hF;clear hd hm hb hF;go_simp;exact hK'.out _ _ _ (by simp only [y0];rfl) trivial ⟨rfl,HF.out⟩
        ·have HF:=Z_ hF;clear hd hm hb hF;go_simp;exact hK'.out _ _ _ rfl trivial ⟨rfl,HF.out⟩
        ·have y0:x 38=.pointer (some ⟨S,0,none⟩):=(D_ hd 2 :);obtain rfl:=kS hm;have HF:=Z_ (show iU _ _ _ _ _ _ _ _ _ _ _ _ _ _ from hF);clear hd hm hb hF;have jM:=Z_ (ih j (by omega) .decl _ _ HF.out.pr HM.out rfl trivial (Out.bh HT.out h_.out));go_simp;refine jM.out.mono ?_
         rintro e u2 hr;obtain⟨hC,⟨lb,hp,rfl⟩|⟨xn,ln,v,hp,rfl,hv,hP⟩⟩:=hr.cases (Out.bh HT.out h_.out)
         ·have HE:=Z_ (Out.aF HT.out hp)
          have HC:=Z_ (HF.out.aK.then hC);clear hr hp hC hK' jM;go_wp2_with fail
          exact⟨rfl,eC.fails HC.out HE.out⟩
         ·exact hK'.out _ _ _ (by simp only [y0];rfl) trivial (fQ HF.out hC hp hv hP (bF.dO _ _ _ _ _ hp))
        ·obtain⟨v0,rfl⟩:=mD hm
         have y0:x 39=v0:=((D_ hd 3) 39 (by kernel_rfl) :);have hcl:∃ a b c d,v0=.agg #[a,b,c,d]:=by obtain⟨xn,ln,_,_,_,hx⟩:=hF;obtain⟨a,b,c,d,h,_⟩:=bD hx;exact⟨a,b,c,d,h⟩
         obtain⟨a0,b0,c0,d0,rfl⟩:=hcl;have HF:=Z_ hF;clear hd hm hb hF;go_simp;exact hK'.out _ _ _ (by simp only [y0];rfl) trivial (dU HF.out rfl)
        ·obtain⟨v0,v1,rfl⟩:=tN hm
         have y0:x 37=row:=(D_ hd 1 :);have y1:x 40=v1:=((D_ hd 4) 40 (by kernel_rfl) :);have hF2:=hF;obtain⟨xn,ln,hT1,aO,hfew,hx,gg,rfl,hgb,hgr⟩:=hF2;obtain⟨us,hu1,ho,hu3⟩:=aO.grow.ex;have hlt:=aO.lt;obtain⟨iW,iY,hz0,hz1,hz2⟩:=aW eU;refine wp_append_lies _ _ _ 22 rfl (N+1) 24 iW (.agg #[.int .i64 0,.string ⟨#[]⟩,.int .i64 0,.slice none 0 0]) 4 56 Tryz.underlying22 iY hz0 hz1 hz2 rfl (by decide) row acc.length (us.flatMap fun u=>u.cells.toList) y0 ho ⟨gg,0,none⟩ 1 1 v0.cells.toList y1 (by rw [Array.length_toList,fB hx]) ?_ (by obtain⟨a,b,c,d,e,e2,p1,p2,p3,p4⟩:=bD hx;rw [e2];intro q hq;simp at hq;rcases hq with rfl|rfl|rfl|rfl<;>assumption) (by decide) (by unfold maxLen;omega) (by omega) (by omega) u.heap.size rfl ?_
         ·intro j q hj;have e:(⟨gg,0,none⟩:Addr).add j=⟨gg,j,none⟩:=(by unfold Addr.add;split<;>simp_all);rw [e,hgb.cell];simpa using hj
         ·intro g9 c9 w9 ju iZ kU uI
          exact hK'.out _ _ _ rfl trivial (push_append hF hu1 hu3 ju iZ kU)
        ·have HF:=Z_ hF;clear hd hm hb hF;go_simp;exact hK'.out _ _ _ rfl trivial ⟨rfl,HF.out⟩
        ·obtain⟨v0,v1,v2,rfl⟩:=zF hm
         have y0:x 42=.pointer (some ⟨N,3,none⟩):=(D_ hd 6 :);have y1:x 41=v2:=((D_ hd 5) 41 (by kernel_rfl) :);have hF2:=hF;obtain⟨xn,ln,hT1,aO,gg,cc,rfl⟩:=hF2;have hc:=aO.nd.cell 3;have hf:=aO.nd.frozen 3;have hl:=aO.lt;simp at hc
         have HF:=Z_ hF;clear hd hm hb hF aO hT1;go_simp;exact hK'.out _ _ undef (by simp only [y0,y1];rfl) trivial (dV HF.out)
       case rE=>
        intro x vs w9 hl hF hk;obtain⟨v0,v1,v2,v3,rfl⟩:=zG hl
        obtain⟨xn,ln,hT1,jV⟩:=hF;clear hk hl;replace HT:=Z_ (Out.aG HT.out hT1.out);replace HB:=Z_ jV;clear hT1 jV;go_wp2_with fail
        go_roundg j
        case rel=>exact⟨ln,acc ++ [xn],v2,by omega,HT,HB⟩
        case measure=>omega
   | true=>
    replace hP:bz W u5 S E lr.tail:=by simpa using hP
    have HT0:=HT.out;clear HT;simp only [↓reduceIte] at HT0;have HT:=Z_ HT0;clear HT0;replace HB:=Z_ (HB.out.call hC hP (by have:=gu.out rfl;omega));replace aA:=Z_ HB.out.at;clear hC hP HH gu;go_upto_region 5 with (fail)
    refine aj [3,4,5,6,8] (fun i v _=>v=([.pointer (some ⟨N,3,none⟩),row,.pointer (some ⟨S,0,none⟩),undef,undef,undef,undef,.pointer (some ⟨N,3,none⟩),undef]:List Value).getD i undef) (uT W w S E A N lr.tail 1 s 0 row acc 2 0) (fun _ _=>True) (frame:=?ES) (fun x=>?rK) mixed (by kernel_rfl) (by kernel_rfl) (fun _ _ _ _ h _=>h) ?ET ?EU ?rL
    case rK=>
     simp only [chain.aN,chain.fill,chain.bf,chain.aY,jW,jX,jY,jZ,kz,kC,kD,kE,kF];exact rfl
    case ET=>exact HB.out.extend (aB.refl _ _).drew
    case EU=>
     iterate 9 (refine ak.cons (fun x vs u hF hm hb hd K' hK'=>?_) ?_;rotate_left)
     exact ak.nil
     ·have HF:=Z_ hF;clear hd hm hb hF;go_simp;exact hK'.out _ _ _ rfl trivial ⟨rfl,HF.out⟩
     ·have y0:x 15=.pointer (some ⟨N,3,none⟩):=(D_ hd 0 :);have hc:=hF.cell (by have:=hb 3 _ (by decide) rfl (by kernel_rfl);omega);have HF:=Z_ hF;clear hd hm hb hF;go_simp;exact hK'.out _ _ _ (by simp only [y0];rfl) trivial ⟨rfl,HF.out⟩
     ·have HF:=Z_ hF;clear hd hm hb hF;go_simp;exact hK'.out _ _ _ rfl trivial ⟨rfl,HF.out⟩
     ·have y0:x 17=.pointer (some ⟨S,0,none⟩):=(D_ hd 2 :);obtain rfl:=kS hm;have HF:=Z_ (show iU _ _ _ _ _ _ _ _ _ _ _ _ _ _ from hF);clear hd hm hb hF;have jM:=Z_ (name_any HF.out.pr HM.out);go_simp;refine jM.out.mono ?_
      rintro e u2 hr;obtain⟨hC,⟨lb,hp,rfl⟩|⟨sn,lx,v,hp,rfl,⟨rfl,hsz⟩,hP⟩⟩:=hr.cases (iI _)
      ·have HE:=Z_ (Out.aF HT.out hp)
       have HC:=Z_ (HF.out.aK.then hC);clear hr hp hC hK' jM;go_wp2_with fail
       exact⟨rfl,eC.fails HC.out HE.out⟩
      ·exact hK'.out _ _ _ (by simp only [y0];rfl) trivial (rO HF.out hC hp hsz hP)
     ·obtain⟨v0,rfl⟩:=mD hm
      have y0:x 18=v0:=((D_ hd 3) 18 (by kernel_rfl) :);have hcl:∃ s,v0=.string s:=by obtain⟨s,ln,_,e,_⟩:=hF;exact⟨s,e⟩
      obtain⟨sn,rfl⟩:=hcl;have HF:=Z_ hF;clear hd hm hb hF;go_simp;refine(dH _ _ _ _ _ _ _).mono ?_
      rintro e u2 ⟨rfl,hE⟩;exact hK'.out _ _ _ (by simp only [y0];rfl) trivial (rP HF.out hE)
     ·obtain⟨vz,v0,rfl⟩:∃ vz v0,vs=[vz,v0]:=by match vs,hm 2 (by kernel_rfl) with|[vz,v0],_=>exact⟨_,_,rfl⟩
      have y0:x 19=v0:=((D_ hd 4) 19 (by kernel_rfl) :);replace hF:fJ W w S E A N lr.tail 1 s 0 row acc (mZ 2 0 lr.tail) [v0] u:=hF;have hcl:∃ a b c d,v0=.agg #[a,b,c,d]:=by obtain⟨xn,ln,_,_,_,hx⟩:=hF;obtain⟨a,b,c,d,h,_⟩:=bD hx;exact⟨a,b,c,d,h⟩
      obtain⟨a0,b0,c0,d0,rfl⟩:=hcl;have HF:=Z_ hF;clear hd hm hb hF;go_simp;exact hK'.out _ _ _ (by simp only [y0];rfl) trivial (dU HF.out rfl)
     ·obtain⟨vz,v0,v1,rfl⟩:∃ vz v0 v1,vs=[vz,v0,v1]:=by match vs,hm 3 (by kernel_rfl) with|[vz,v0,v1],_=>exact⟨_,_,_,rfl⟩
      have y0:x 16=row:=(D_ hd 1 :);have y1:x 20=v1:=((D_ hd 5) 20 (by kernel_rfl) :);replace hF:fJ W w S E A N lr.tail 1 s 0 row acc (mZ 2 0 lr.tail) [v0,v1] u:=hF;have hF2:=hF;obtain⟨xn,ln,hT1,aO,hfew,hx,gg,rfl,hgb,hgr⟩:=hF2;obtain⟨us,hu1,ho,hu3⟩:=aO.grow.ex;have hlt:=aO.lt;obtain⟨iW,iY,hz0,hz1,hz2⟩:=aW eU;refine wp_append_lies _ _ _ 22 rfl (N+1) 24 iW (.agg #[.int .i64 0,.string ⟨#[]⟩,.int .i64 0,.slice none 0 0]) 4 56 Tryz.underlying22 iY hz0 hz1 hz2 rfl (by decide) row acc.length (us.flatMap fun u=>u.cells.toList) y0 ho ⟨gg,0,none⟩ 1 1 v0.cells.toList y1 (by rw [Array.length_toList,fB hx]) ?_ (by obtain⟨a,b,c,d,e,e2,p1,p2,p3,p4⟩:=bD hx;rw [e2];intro q hq;simp at hq;rcases hq with rfl|rfl|rfl|rfl<;>assumption) (by decide) (by unfold maxLen;omega) (by omega) (by omega) u.heap.size rfl ?_
      ·intro j q hj;have e:(⟨gg,0,none⟩:Addr).add j=⟨gg,j,none⟩:=(by unfold Addr.add;split<;>simp_all);rw [e,hgb.cell];simpa using hj
      ·intro g9 c9 w9 ju iZ kU uI
       exact hK'.out _ _ _ rfl trivial (push_append hF hu1 hu3 ju iZ kU)
     ·have HF:=Z_ hF;clear hd hm hb hF;go_simp;exact hK'.out _ _ _ rfl trivial ⟨rfl,HF.out⟩
     ·obtain⟨vz,v0,v1,v2,rfl⟩:∃ vz v0 v1 v2,vs=[vz,v0,v1,v2]:=by match vs,hm 4 (by kernel_rfl) with|[vz,v0,v1,v2],_=>exact⟨_,_,_,_,rfl⟩
      have y0:x 22=.pointer (some ⟨N,3,none⟩):=(D_ hd 7 :);have y1:x 21=v2:=((D_ hd 6) 21 (by kernel_rfl) :);replace hF:fJ W w S E A N lr.tail 1 s 0 row acc (mZ 2 0 lr.tail) [v0,v1,v2] u:=hF;have hF2:=hF;obtain⟨xn,ln,hT1,aO,gg,cc,rfl⟩:=hF2;have hc:=aO.nd.cell 3;have hf:=aO.nd.frozen 3;have hl:=aO.lt;simp at hc
      have HF:=Z_ hF;clear hd hm hb hF aO hT1;go_simp;exact hK'.out _ _ undef (by simp only [y0,y1];rfl) trivial (dV (z:=undef) HF.out)
    case rL=>
     intro x vs w9 hl hF hk;obtain⟨vz,v0,v1,v2,v3,rfl⟩:∃ vz v0 v1 v2 v3,vs=[vz,v0,v1,v2,v3]:=by match vs,hl with|[vz,v0,v1,v2,v3],_=>exact⟨_,_,_,_,_,rfl⟩
     obtain⟨xn,ln,hT1,jV⟩:=hF;clear hk hl;have hT2:=hT1.out;unfold mZ at hT2;obtain⟨sn,lz,hq1,hq2⟩:=bF.ag hT2;injection hq2 with hq3 hq4
     subst hq3 hq4;replace HT:=Z_ (Out.aG HT.out hq1);replace HB:=Z_ jV;replace aA:=Z_ HB.out.at;clear hT1 jV hT2 hq1;have HN:=Z_ (b_ (aA.out.pr.alloc (.cells #[.string cZ] 9)) w9.heap.size 1 cZ ((aC.made w9 #[.string cZ] 9).cell 0));have eP:=(aB.refl (fun _=>False) w9).alloc (.cells #[.string cZ] 9);replace HB:=Z_ (HB.out.extend eP);replace aA:=Z_ HB.out.at;clear eP;go_wp2_with fail
     refine HN.out.mono ?_
     rintro e u7 hr;obtain⟨hC,⟨lb,hp,rfl⟩|⟨_,l7,_,hp,rfl,rfl,hP⟩⟩:=hr.cases (di _ _)
     ·have HF:=Z_ (Out.aF HT.out hp)
      have HC:=Z_ (aA.out.aK.then hC);clear hr hp hC;go_wp2_with fail
      exact⟨rfl,eC.fails HC.out HF.out⟩
     replace HT:=Z_ (Out.aG HT.out hp);replace HB:=Z_ (HB.out.call hC hP (by have:=bF.aZ hp;omega));replace aA:=Z_ HB.out.at;clear hr hp hC hP HN;go_wp2_with fail
     go_roundg m
     case rel=>exact⟨l7,acc ++ [.mk 2 sn 0 []],v2,by omega,HT,HB⟩
     case measure=>omega
theorem LP:∀ n,Good n:=by
 intro n;induction n using Nat.strongRecOn with
 | _ n IH=>
  cases n with
  | zero=>intro W w S E l X f a _ _ _ _ hne;exact absurd (by cases X<;>rfl) hne
  | succ n=>
   have ih:∀ m,m≤n→Good m:=fun m hm=>IH m (by omega)
   intro W w S E l X f a h hm ha hk hne;cases X with
   | expr=>cases ha;exact wM ih h hm hne
   | bound k=>cases ha;exact IW ih h hm hk hne
   | unary=>cases ha;exact IV ih h hm hne
   | asked=>cases ha;exact IQ ih h hm hne
   | place s=>cases ha;exact IU ih h hm hk hne
   | call s=>cases ha;exact v_ ih h hm hk hne
   | block=>cases ha;exact tV ih h hm hne
   | stat=>cases ha;exact wO ih h hm hne
   | decl=>cases ha;exact LZ ih h hm hne
   | proc dR=>cases ha;exact L8 ih h hm hk hne
   | module=>cases ha;exact Fa ih h hm hne
   | loop k x=>cases ha
   | args s acc=>cases ha
   | stats acc=>cases ha
   | params s dR acc=>cases ha
   | imports s acc=>cases ha
   | decls s acc=>cases ha
end bu
end Go.Proofs.YtpcihajmcejliacGreatDoor
namespace Go.Proofs.YtpcihajmcejliacGreatDoor
open Go.RowKit
theorem mW {P:Program} {fn:Func} {p q:Tmp} {ty F7:TypeId} (h:fn.results=#[.cell p ty,.cell q F7]) (tmps:Array Value) (w:World) {g g2:Nat} {T T2:TypeId} {cs F8:Array Value} {d d2:TypeDesc}
  (hp:tmps.getD p undef=.pointer (some ⟨g,0,none⟩)) (hg:aC w g cs T) (hu:P.underlying ty=some d) (hd:(match d with|.struct _|.array _ _=>true|_=>false)=true) (hi:(P.info? ty).map (·.size)=some cs.size)
  (hq:tmps.getD q undef=.pointer (some ⟨g2,0,none⟩)) (hg2:aC w g2 F8 T2) (hu2:P.underlying F7=some d2) (hd2:(match d2 with|.struct _|.array _ _=>true|_=>false)=true) (hi2:(P.info? F7).map (·.size)=some F8.size) :
  (results fn tmps).run P w=.ok (.tuple #[.agg cs,.agg F8]) w:=by
 have hp':tmps[p]?.getD undef=.pointer (some ⟨g,0,none⟩):=by simpa using hp
 have hq':tmps[q]?.getD undef=.pointer (some ⟨g2,0,none⟩):=by simpa using hq
 simp [results,h,hp',hq',asAddr,run_loadVar_row w g T ty cs (0,0) d hg hu hd hi,run_loadVar_row w g2 T2 F7 F8 (0,0) d2 hg2 hu2 hd2 hi2]
namespace bu
theorem Ug (v:Value) (w:World):(Instr.typeAssert (.iface 105 v) 20 105 true).run Tryz.prog w=.ok (.tuple #[v,.bool true]) w:=by kernel_rfl
def lU (R F:Nat) (p:Int) (w:World) (e:Exit) (a:Act) (w':World):Prop:=e=.normal∧a.defers=[]∧aC w' R bK 24∧aC w' F #[.int .i64 2,.int .i64 p] 27∧aB (fun i=>i=R∨i=F) w w'
def jE (R F B:Nat) (p:Int) (w0:World) (cs fs:Array Value):List Value→World→Prop
 | [],u=>aC u R cs 24∧aC u F fs 27∧aB (fun i=>i=R∨i=F) w0 u∧aC u B #[.int .i64 p] 105
 | [_],u=>aC u R bK 24∧aC u F fs 27∧aB (fun i=>i=R∨i=F) w0 u∧aC u B #[.int .i64 p] 105
 | _,u=>aC u R bK 24∧aC u F #[.int .i64 2,.int .i64 p] 27∧aB (fun i=>i=R∨i=F) w0 u∧aC u B #[.int .i64 p] 105
theorem jE.b {R F B:Nat} {p:Int} {w0 u:World} {cs fs:Array Value} {vs:List Value} (h:jE R F B p w0 cs fs vs u):aC u B #[.int .i64 p] 105:=by
 match vs,h with
 | [],h=>exact h.2.2.2
 | [_],h=>exact h.2.2.2
 | _::_::_,h=>exact h.2.2.2
set_option maxRecDepth 100000 in
set_option maxHeartbeats 4000000 in
theorem Dh (R F:Nat) (cs fs:Array Value) (p:Int) (w:World) (hR:aC w R cs 24) (hcs:cs.size=4) (hF:aC w F fs 27) (hfs:fs.size=2) (hne:R≠F) :
  CallsD Tryz.prog 47 #[.pointer (some ⟨R,0,none⟩),.pointer (some ⟨F,0,none⟩)] (.panicking (H8 p)) w fun e u' w'=>
   e=.returned (.tuple #[])∧u'=.panicking [{ v:=.iface 105 (.agg #[.int .i64 p]),recovered:=true }]∧aC w' R bK 24∧aC w' F #[.int .i64 2,.int .i64 p] 27∧aB (fun i=>i=R∨i=F) w w':=by
 have hta:=Ug;have Bv:=hR.lt;have Bz:=hF.lt
 obtain⟨c0,c1,c2,c3,rfl⟩:∃ c0 c1 c2 c3,cs=#[c0,c1,c2,c3]:=by
  obtain⟨l⟩:=cs;match l,hcs with
  | [c0,c1,c2,c3],_=>exact⟨_,_,_,_,rfl⟩
 obtain⟨f0,f1,rfl⟩:∃ f0 f1,fs=#[f0,f1]:=by
  obtain⟨l⟩:=fs;match l,hfs with
  | [f0,f1],_=>exact⟨_,_,rfl⟩
 clear hcs hfs;obtain⟨B,hB⟩:∃ B,w.heap.size=B:=⟨_,rfl⟩;have hB0:=aC.made w #[.int .i64 p] 105;rw [hB] at hB0 Bv Bz;have hR0:=hR.alloc (.cells #[.int .i64 p] 105);have kY:=hF.alloc (.cells #[.int .i64 p] 105);have lH:=(aB.refl (fun i=>i=R∨i=F) w).alloc (.cells #[.int .i64 p] 105);refine callsD_of_wpS Tryz.func47 rfl fun c₀ cs hu=>?_
 unfold H8 at hu;apply wpS_seq
 apply wpS_region
 simp [wpOpsS,go_sem,recoverD,hu,Tryz.ntmps47,Exit.thenS]
 simp only [Array.replicate,List.replicate,List.append_toArray,List.setIfInBounds_toArray,List.set_cons_zero,List.set_cons_succ,List.cons_append,List.nil_append];refine wpS_of_wp (Code.wp_mono (Q:=lU R F p w) ?_ ?_)
 ·rintro e a w1 ⟨rfl,hd,h1,h2,h3⟩
  exact⟨hd,_,rfl,_,results_none rfl _ _ _,rfl,rfl,h1,h2,h3⟩
 clear hu;have HR0:=Z_ hR0;have o_:=Z_ kY;have HX0:=Z_ lH;have SI:=Z_ hB0;clear hR hF hR0 kY lH hB0;unfold lU;go_upto_region 7 with (fail)
 generalize w.alloc (.cells #[.int .i64 p] 105)=u0 at *;refine aj [4,5] (fun i v _=>v=([.agg #[.int .i64 0,.string ⟨#[]⟩,.int .i64 0,.slice none 0 0],.pointer (some ⟨B,0,none⟩),.int .i64 p,.agg #[.int .i64 2,.int .i64 p],undef,undef]:List Value).getD i undef) (jE R F B p w #[c0,c1,c2,c3] #[f0,f1]) (fun _ _=>True) (frame:=?fra) (fun x=>?hfa) mixed (by kernel_rfl) (by kernel_rfl) (fun _ _ _ _ h _=>h) ?h0 ?st ?fin
 case hfa=>
  simp only [chain.aN,chain.fill,chain.bf,chain.aY,jW,jX,jY,jZ,kz,kC,kD,kE,kF];exact rfl
 case h0=>exact⟨HR0.out.drew,o_.out.drew,HX0.out.drew,SI.out.drew⟩
 case st=>
  iterate 6 (refine ak.cons (fun x vs u hF hm hb hd K' hK'=>?_) ?_;rotate_left)
  exact ak.nil
  ·have HF:=Z_ hF;clear hd hm hb hF;go_simp;exact hK'.out _ _ _ rfl trivial ⟨rfl,HF.out⟩
  ·have HF:=Z_ hF;clear hd hm hb hF;go_simp;exact hK'.out _ _ _ rfl trivial ⟨rfl,HF.out⟩
  ·have y0:x 12=.pointer (some ⟨B,0,none⟩):=(D_ hd 1 :);have hc:=hF.b.cell 0;simp at hc
   have HF:=Z_ hF;clear hd hm hb hF;go_simp;exact hK'.out _ _ _ (by simp only [y0];rfl) trivial ⟨rfl,HF.out⟩
  ·have y0:x 13=.int .i64 p:=(D_ hd 2 :);have HF:=Z_ hF;clear hd hm hb hF;go_simp;exact hK'.out _ _ _ (by simp only [y0];rfl) trivial ⟨rfl,HF.out⟩
  ·have y0:x 11=.agg #[.int .i64 0,.string ⟨#[]⟩,.int .i64 0,.slice none 0 0]:=(D_ hd 0 :);obtain rfl:=kS hm;obtain⟨g1,g2,g3,g4⟩:=(show _∧_ from hF);have hc:=g1.cell;have hf:=g1.frozen;have hl:=g1.lt;have HG:=Z_ (And.intro g1 (And.intro g2 (And.intro g3 g4)));clear hd hm hb hF g1 g2 g3 g4;go_simp;obtain⟨g1,g2,g3,g4⟩:=HG.out;exact hK'.out _ _ undef (by simp only [y0];rfl) trivial ⟨(((g1.set 0 _).set 1 _).set 2 _).set 3 _,(((g2.setOther (p:=⟨R,0,none⟩) (by show F≠R;omega) _).setOther (p:=⟨R,1,none⟩) (by show F≠R;omega) _).setOther (p:=⟨R,2,none⟩) (by show F≠R;omega) _).setOther (p:=⟨R,3,none⟩) (by show F≠R;omega) _,(((g3.setCell (p:=⟨R,0,none⟩) (fun _=>.inl rfl) _).setCell (p:=⟨R,1,none⟩) (fun _=>.inl rfl) _).setCell (p:=⟨R,2,none⟩) (fun _=>.inl rfl) _).setCell (p:=⟨R,3,none⟩) (fun _=>.inl rfl) _,(((g4.setOther (p:=⟨R,0,none⟩) (by show B≠R;omega) _).setOther (p:=⟨R,1,none⟩) (by show B≠R;omega) _).setOther (p:=⟨R,2,none⟩) (by show B≠R;omega) _).setOther (p:=⟨R,3,none⟩) (by show B≠R;omega) _⟩
  ·have y0:x 14=.agg #[.int .i64 2,.int .i64 p]:=(D_ hd 3 :);obtain⟨v0,rfl⟩:=mD hm
   obtain⟨g1,g2,g3,g4⟩:=(show _∧_ from hF);have hc:=g2.cell;have hf:=g2.frozen;have hl:=g2.lt;have HG:=Z_ (And.intro g1 (And.intro g2 (And.intro g3 g4)));clear hd hm hb hF g1 g2 g3 g4;go_simp;obtain⟨g1,g2,g3,g4⟩:=HG.out;exact hK'.out _ _ undef (by simp only [y0];rfl) trivial ⟨(g1.setOther (p:=⟨F,0,none⟩) hne _).setOther (p:=⟨F,1,none⟩) hne _,(g2.set 0 _).set 1 _,(g3.setCell (p:=⟨F,0,none⟩) (fun _=>.inr rfl) _).setCell (p:=⟨F,1,none⟩) (fun _=>.inr rfl) _,(g4.setOther (p:=⟨F,0,none⟩) (by show B≠F;omega) _).setOther (p:=⟨F,1,none⟩) (by show B≠F;omega) _⟩
 case fin=>
  intro x vs w9 hl hF hk;obtain⟨v0,v1,rfl⟩:=DT hl
  obtain⟨g1,g2,g3,g4⟩:=(show _∧_ from hF);clear hk hl;have HG:=Z_ (And.intro g1 (And.intro g2 g3));clear hF g1 g2 g3 g4;go_wp2_with (fail)
  exact HG.out
theorem xO (R F:Nat) (w:World) :
  CallsD Tryz.prog 47 #[.pointer (some ⟨R,0,none⟩),.pointer (some ⟨F,0,none⟩)] .returning w fun e u' w'=>e=.returned (.tuple #[])∧u'=.returning∧w'=w:=by
 refine callsD_of_wpS Tryz.func47 rfl fun c₀ cs hu=>?_
 apply wpS_seq
 apply wpS_region
 simp [wpOpsS,go_sem,recoverD,hu,Tryz.ntmps47,Exit.thenS]
 simp only [Array.replicate,List.replicate,List.append_toArray,List.setIfInBounds_toArray,List.set_cons_zero,List.set_cons_succ,List.cons_append,List.nil_append];refine wpS_of_wp (Code.wp_mono (Q:=fun e a' w'=>e=.normal∧a'.defers=[]∧w'=w) ?_ ?_)
 ·rintro e a w1 ⟨rfl,hd,rfl⟩
  exact⟨hd,.returning,by cases c₀;simp_all,_,results_none rfl _ _ _,rfl,rfl,rfl⟩
 clear hu;go_wp2_with (fail)
end bu
end Go.Proofs.YtpcihajmcejliacGreatDoor
namespace Go.Proofs.YtpcihajmcejliacGreatDoor
open Go.RowKit
def NT.rank:NT→Nat
 | .loop _ _=>1
 | .unary=>4
 | .asked=>1
 | .place _=>1
 | .call _=>1
 | .bound k=>5+(4-k)
 | .expr=>10
 | .args _ _=>11
 | .block=>1
 | .stats _=>2
 | .stat=>1
 | .decl=>1
 | .proc _=>1
 | .params _ _ _=>1
 | .module=>1
 | .imports _ _=>3
 | .decls _ _=>2
namespace bF
theorem aS {α β : Type} {o:Out α} {f:α→List Tk→Out β} (h1:o≠.out) (h2:∀ x l,o=.got x l→f x l≠.out):o.bind f≠.out:=by
 cases o with
 | out=>exact absurd rfl h1
 | bad l=>intro h;cases h
 | got x l=>exact h2 x l rfl
theorem gX (s:ByteArray) (l:List Tk):dY s l≠.out:=by unfold dY;split<;>intro h<;>cases h
theorem ng (l:List Tk):fH l≠.out:=by
 cases l with
 | nil=>intro h;cases h
 | cons t r=>
  simp only [fH,ne_eq];split<;>simp
theorem tG (l:List Tk):iL l≠.out:=by
 unfold iL;refine aS (ng _) fun s l _=>?_
 split
 ·exact aS (ng _) fun _ _ _ h=>by cases h
 ·intro h;cases h
theorem l_ (l:List Tk):dG l≠.out:=by
 unfold dG;split
 ·intro h;cases h
 ·exact aS (gX _ _) fun _ _ _ h=>by cases h
theorem zh (l:List Tk):fD l≠.out:=by
 cases l with
 | nil=>intro h;cases h
 | cons t r=>
  simp only [fD,ne_eq];split<;>simp
theorem nB (x:Nd) (l:List Tk):kN x l≠.out:=aS (gX _ _) fun _ _ _ h=>by cases h
theorem jh {α : Type} (x:α) (l:List Tk):Out.got x l≠.out:=fun h=>by cases h
theorem ER:∀ (n:Nat) (X:NT) (l:List Tk),20*l.length+X.rank<n→bJ n X l≠.out:=by
 intro n;induction n with
 | zero=>intro X l h;omega
 | succ n ih=>
  intro X l h;cases X with
  | expr=>simp only [bJ];exact ih _ _ (by simp only [NT.rank] at h ⊢;omega)
  | bound k=>
   simp only [bJ];split
   ·exact ih _ _ (by simp only [NT.rank] at h ⊢;omega)
   ·refine aS (ih _ _ (by simp only [NT.rank] at h ⊢;omega)) fun x r hx=>?_
    have a:=dO _ _ _ _ _ hx;exact ih _ _ (by simp only [NT.rank,NT.weak] at h a ⊢;omega)
  | loop k x=>
   simp only [bJ];split
   ·rename_i hk
    have:=Gl hk.1;refine aS (ih _ _ (by simp only [NT.rank] at h ⊢;omega)) fun y r hy=>?_
    have a:=dO _ _ _ _ _ hy;split
    ·exact jh _ _
    ·exact ih _ _ (by simp only [NT.rank,NT.weak] at h a ⊢;omega)
   ·exact jh _ _
  | unary=>
   simp only [bJ];split
   ·rename_i hb
    have:=aV hb;exact aS (ih _ _ (by simp only [NT.rank] at h ⊢;omega)) fun _ _ _=>jh _ _
   split
   ·rename_i hb
    have:=aV hb;exact aS (ih _ _ (by simp only [NT.rank] at h ⊢;omega)) fun _ _ _=>jh _ _
   split
   ·exact ih _ _ (by simp only [NT.rank] at h ⊢;omega)
   split
   ·exact zh _
   ·refine aS (tG _) fun s r hs=>?_
    have:=gW hs;split
    ·exact ih _ _ (by simp only [NT.rank] at h ⊢;omega)
    ·exact ih _ _ (by simp only [NT.rank] at h ⊢;omega)
  | asked=>
   simp only [bJ];refine aS (gX _ _) fun _ r hs=>?_
   have:=aZ hs;refine aS (ih _ _ (by simp only [NT.rank] at h ⊢;omega)) fun _ _ _=>aS (gX _ _) fun _ _ _=>jh _ _
  | place s=>
   simp only [bJ];split
   ·rename_i hb
    have:=aV hb;refine aS (ih _ _ (by simp only [NT.rank] at h ⊢;omega)) fun _ _ _=>aS (gX _ _) fun _ _ _=>jh _ _
   ·exact jh _ _
  | call s=>
   simp only [bJ];refine aS (gX _ _) fun _ r hs=>?_
   have:=aZ hs;exact ih _ _ (by simp only [NT.rank] at h ⊢;omega)
  | args s acc=>
   simp only [bJ];split
   ·exact aS (gX _ _) fun _ _ _=>jh _ _
   ·refine aS (ih _ _ (by simp only [NT.rank] at h ⊢;omega)) fun x r hx=>?_
    have a:=dO _ _ _ _ _ hx;split
    ·rename_i hb
     have:=aV hb;exact ih _ _ (by simp only [NT.rank,NT.weak] at h a ⊢;omega)
    ·exact aS (gX _ _) fun _ _ _=>jh _ _
  | block=>
   simp only [bJ];refine aS (gX _ _) fun _ r hs=>?_
   have:=aZ hs;exact ih _ _ (by simp only [NT.rank] at h ⊢;omega)
  | stats acc=>
   simp only [bJ];split
   ·exact jh _ _
   ·refine aS (ih _ _ (by simp only [NT.rank] at h ⊢;omega)) fun x r hx=>?_
    have a:=dO _ _ _ _ _ hx;exact ih _ _ (by simp only [NT.rank,NT.weak] at h a ⊢;omega)
  | stat=>
   simp only [bJ];simp only [NT.rank] at h;split
   ·refine aS (l_ _) fun _ r h1=>aS (ng _) fun _ r2 h2=>aS (gX _ _) fun _ r3 h3=>?_
    have:=dQ h1;have:=iq h2;have:=aZ h3
    exact aS (ih _ _ (by simp only [NT.rank];omega)) fun _ _ _=>nB _ _
   split
   ·rename_i hb
    have:=aV hb;refine aS (tG _) fun _ r h1=>?_
    have:=gW h1;exact aS (ih _ _ (by simp only [NT.rank];omega)) fun _ _ _=>nB _ _
   split
   ·rename_i hb
    have:=aV hb;refine aS (ih _ _ (by simp only [NT.rank];omega)) fun _ _ h1=>?_
    have a:=dO _ _ _ _ _ h1;refine aS (ih _ _ (by simp only [NT.rank];omega)) fun _ _ h2=>?_
    have b:=dO _ _ _ _ _ h2;split
    ·rename_i hb2
     have:=aV hb2;exact aS (ih _ _ (by simp only [NT.rank];omega)) fun _ _ _=>jh _ _
    ·exact jh _ _
   split
   ·rename_i hb
    have:=aV hb;refine aS (ih _ _ (by simp only [NT.rank];omega)) fun _ _ h1=>?_
    have a:=dO _ _ _ _ _ h1;exact aS (ih _ _ (by simp only [NT.rank];omega)) fun _ _ _=>jh _ _
   split
   ·rename_i hb
    have:=aV hb;refine aS (l_ _) fun _ r h1=>?_
    have:=dQ h1;exact aS (ih _ _ (by simp only [NT.rank];omega)) fun _ _ _=>nB _ _
   split
   ·rename_i hb
    have:=aV hb;refine aS (l_ _) fun _ r h1=>aS (tG _) fun _ r2 h2=>?_
    have:=dQ h1;have:=gW h2
    exact aS (ih _ _ (by simp only [NT.rank];omega)) fun _ _ _=>nB _ _
   split
   ·rename_i hb
    have:=aV hb;exact aS (ih _ _ (by simp only [NT.rank];omega)) fun _ _ _=>nB _ _
   ·refine aS (tG _) fun _ r h1=>?_
    have:=gW h1;refine aS (ih _ _ (by simp only [NT.rank];omega)) fun _ r2 h2=>?_
    have a:=dO _ _ _ _ _ h2;refine aS (gX _ _) fun _ r3 h3=>?_
    have:=aZ h3;exact aS (ih _ _ (by simp only [NT.rank];omega)) fun _ _ _=>nB _ _
  | decl=>
   simp only [bJ];simp only [NT.rank] at h
   obtain⟨l2,hl2,hle⟩:∃ l2,(if fK l [sN]=true then l.tail else l)=l2∧l2.length≤l.length:=by
    refine⟨_,rfl,?_⟩
    split
    ·rename_i hb;have:=aV hb;omega
    ·exact Nat.le_refl _
   rw [hl2];split
   ·rename_i hb
    have:=aV hb;exact ih _ _ (by simp only [NT.rank];omega)
   ·refine aS (l_ _) fun _ r h1=>aS (ng _) fun _ r2 h2=>?_
    split
    ·exact aS (zh _) fun _ _ _=>aS (gX _ _) fun _ _ _=>nB _ _
    ·exact nB _ _
  | proc dR=>
   simp only [bJ];simp only [NT.rank] at h;refine aS (ng _) fun _ r h1=>aS (gX _ _) fun _ r2 h2=>?_
   have:=iq h1;have:=aZ h2
   exact ih _ _ (by simp only [NT.rank];omega)
  | params s dR acc=>
   simp only [NT.rank] at h
   have done:∀ (acc:List Nd) (l2:List Tk),l2.length≤l.length→((dY dN l2).bind fun _ l=>(dG l).bind fun b l=>
     if fK l [oZ]=true then (dG l.tail).bind fun g l=>(bJ n .block l).bind fun x l=>Out.got (Nd.mk 4 s (dR+b+(4+4*g)) (acc ++ [x])) l
     else (bJ n .block l).bind fun x l=>Out.got (Nd.mk 4 s (dR+b) (acc ++ [x])) l)≠Out.out:=by
    intro acc l2 hle;refine aS (gX _ _) fun _ r h1=>aS (l_ _) fun _ r2 h2=>?_
    have:=aZ h1;have:=dQ h2
    split
    ·rename_i hb
     have:=aV hb;refine aS (l_ _) fun _ r3 h3=>?_
     have:=dQ h3;exact aS (ih _ _ (by simp only [NT.rank];omega)) fun _ _ _=>jh _ _
    ·exact aS (ih _ _ (by simp only [NT.rank];omega)) fun _ _ _=>jh _ _
   simp only [bJ];split
   ·exact done _ _ (Nat.le_refl _)
   ·refine aS (l_ _) fun _ r h1=>aS (ng _) fun _ r2 h2=>?_
    have:=dQ h1;have:=iq h2
    split
    ·rename_i hb
     have:=aV hb;exact ih _ _ (by simp only [NT.rank];omega)
    ·exact done _ _ (by omega)
  | module=>
   simp only [bJ];simp only [NT.rank] at h;refine aS (gX _ _) fun _ r h1=>aS (ng _) fun _ r2 h2=>aS (gX _ _) fun _ r3 h3=>?_
   have:=aZ h1;have:=iq h2;have:=aZ h3
   exact ih _ _ (by simp only [NT.rank];omega)
  | imports s acc=>
   simp only [bJ];simp only [NT.rank] at h;split
   ·rename_i hb
    have:=aV hb;refine aS (ng _) fun _ r2 h2=>aS (gX _ _) fun _ r3 h3=>?_
    have:=iq h2;have:=aZ h3
    exact ih _ _ (by simp only [NT.rank];omega)
   ·exact ih _ _ (by simp only [NT.rank];omega)
  | decls s acc=>
   simp only [bJ];simp only [NT.rank] at h;split
   ·exact jh _ _
   ·refine aS (ih _ _ (by simp only [NT.rank];omega)) fun x r hx=>?_
    have a:=dO _ _ _ _ _ hx;exact ih _ _ (by simp only [NT.rank,NT.weak] at a ⊢;omega)
end bF
end Go.Proofs.YtpcihajmcejliacGreatDoor
namespace Go.Proofs.YtpcihajmcejliacGreatDoor
open Go.RowKit
def uC (s:ByteArray) (t:Tok):Tk:=⟨t.1,s.extract t.2.1 (t.2.1+t.2.2),t.2.1⟩
def lD (s:ByteArray) (l:List Tok):List Tk:=l.map (uC s)
namespace LO
theorem Fe {l:List UInt8} (h:gm l=0):nM l=true∧decFrom 0 l<9223372036854775808:=by
 unfold gm at h;split at h
 ·cases h
 ·rename_i h1
  split at h
  ·cases h
  ·split at h
   ·cases h
   ·rename_i h3
    exact⟨by simpa using h1,by omega⟩
theorem L_ (l:List UInt8):(l.take (runN dX l)).all (fun c=>dX c.toNat)=true:=by
 rw [again.K_,List.all_eq_true];intro x hx;have:=List.all_takeWhile (l:=l) (p:=fun c=>dX c.toNat);rw [List.all_eq_true] at this;exact this x hx
theorem Ff (s:ByteArray):∀ (T:List Tok) (j:Nat) (h:j<T.length) (i:Nat) (_:i<3),(iH s T)[j*3+i]? = (Tok.cells s T[j])[i]?:=by
 intro T;induction T with
 | nil=>intro j h;cases h
 | cons t r ih=>
  intro j h i hi;have hl:(Tok.cells s t).length=3:=rfl;have e:iH s (t::r)=Tok.cells s t++iH s r:=by simp [iH]
  rw [e];cases j with
  | zero=>rw [List.getElem?_append_left (by omega)];simp
  | succ j=>
   rw [List.getElem?_append_right (by omega),show (j+1)*3+i-(Tok.cells s t).length=j*3+i by omega,ih j (by simpa using h) i hi];simp
theorem Zc (s:ByteArray) (hs:s.size≤3000) (t:Tok) (h:again.Good s.data.toList t):jF (uC s t):=by
 obtain⟨k,p,n⟩:=t;obtain⟨h1,h2,h3⟩:=h;simp only at h1 h2 h3;have hlen:s.data.toList.length=s.size:=by rw [Array.length_toList];rfl
 have htx:(uC s (k,p,n)).text.data.toList=(s.data.toList.drop p).take n:=lex.jc s p n
 have hsz:(uC s (k,p,n)).text.size≤3000:=by
  have e:(uC s (k,p,n)).text.size=(uC s (k,p,n)).text.data.toList.length:=by rw [Array.length_toList];rfl
  rw [e,htx,List.length_take,List.length_drop];omega
 obtain⟨c,r,hm⟩:∃ c r,s.data.toList.drop p=c::r:=by
  cases hd:s.data.toList.drop p with
  | nil=>
   have:=congrArg List.length hd;rw [List.length_drop] at this;simp only [List.length_nil] at this;omega
  | cons c r=>exact⟨c,r,rfl⟩
 rw [hm] at h1 htx;simp only [tokF] at h1;split at h1
 ·rename_i hl
  simp only [Prod.mk.injEq] at h1;obtain⟨rfl,rfl,h4⟩:=h1
  have hn:runN dX (c::r)≤16:=by
   rcases Nat.lt_or_ge 16 (runN dX (c::r)) with h5|h5
   ·rw [if_pos h5] at h4;cases h4
   ·exact h5
  have hpos:1≤runN dX (c::r):=by simp [runN,dX,hl]
  refine⟨⟨by simp [uC],by simp [uC]⟩,hsz,fun _=>?_,fun e=>(by cases e),fun e=>(by cases e)⟩
  rw [htx];unfold jH;rw [L_,Bool.and_true,Bool.and_eq_true,decide_eq_true_eq,List.length_take];refine⟨?_,by omega⟩
  obtain⟨q,hq⟩:∃ q,runN dX (c::r)=q+1:=⟨runN dX (c::r)-1,by omega⟩;rw [hq,List.take_succ_cons];exact hl
 ·split at h1
  ·rename_i hl hd
   simp only [Prod.mk.injEq] at h1;obtain⟨rfl,rfl,h4⟩:=h1;have hpos:1≤runN dX (c::r):=by simp [runN,dX,hd]
   refine⟨⟨by simp [uC],by simp [uC]⟩,hsz,fun e=>(by cases e),fun _=>?_,fun e=>(by cases e)⟩
   rw [htx];obtain⟨h5,h6⟩:=Fe h4;refine⟨h5,?_,h6⟩
   obtain⟨q,hq⟩:∃ q,runN dX (c::r)=q+1:=⟨runN dX (c::r)-1,by omega⟩;rw [hq,List.take_succ_cons];simp
  ·rename_i hl hd
   simp only [Prod.mk.injEq] at h1;obtain⟨rfl,rfl,h4⟩:=h1;refine⟨⟨by simp [uC],by simp [uC]⟩,hsz,fun e=>(by cases e),fun e=>(by cases e),fun _=>?_⟩
   rw [htx];unfold jH
   have:headB ((c::r).take (oC (c::r)))=false:=by
    cases hs:oC (c::r) with
    | zero=>rfl
    | succ q=>
     rw [List.take_succ_cons];simpa [headB] using hl
   rw [this];rfl
theorem xN (s:ByteArray) (T:List Tok) (a:Nat) (h:iP s.data.toList=(T,0,a)):s.size≤3000∧(∀ t∈lD s T,jF t)∧T.length≤3001:=by
 have hlen:s.data.toList.length=s.size:=by rw [Array.length_toList];rfl
 have h0:=h;rw [iP] at h;split at h
 ·cases h
 ·rename_i hle
  obtain⟨h1,h2⟩:=again.yU s.data.toList (s.data.toList.length+1) (fC false s.data.toList) [] (by simp);rw [h] at h1;refine⟨by omega,fun t ht=>?_,?_⟩
  ·obtain⟨t',ht',rfl⟩:=List.mem_map.1 ht
   exact Zc s (by omega) t' (h1 t' ht')
  ·have:=lexTells.Ce (s.data.toList.length+1) s.data.toList (fC false s.data.toList) []
   rw [h] at this;simp only [List.length_nil] at this;omega
theorem TG {w:World} {B:Nat} {s:ByteArray} {T:List Tok} {v:Value} (h:w.ownsRow B 195 3 v T.length (iH s T)) (hok:∀ t∈lD s T,jF t):∃ a c,v=.slice a T.length c∧BR w a 0 (lD s T):=by
 have h9:=h;obtain⟨h1,h2⟩:=h;rcases h2 with ⟨rfl,h0⟩|⟨g,cap,cur,rfl,hb,hh,-⟩
 ·refine⟨none,0,by rw [h0],fun j hj=>?_⟩
  simp [lD,h0] at hj
 ·refine⟨_,cap,rfl,fun j hj=>⟨g,0,rfl,(Array.getElem?_eq_some_iff.1 hh).1,?_⟩⟩
  have hjl:j<T.length:=by simpa [lD] using hj
  have e:(lD s T)[j]=uC s T[j]:=by simp [lD]
  have hcell:∀ i,i<3→w.cell? ⟨g,0+(0+j)*3+i,none⟩=(Tok.cells s T[j])[i]?:=fun i hi=>by
   rw [show 0+(0+j)*3+i=j*3+i by omega,h9.cellAt (j*3+i) (by omega)];have:=Ff s T j hjl i hi;exact this
  rw [e];exact⟨(hcell 0 (by decide)).trans rfl,(hcell 1 (by decide)).trans rfl,(hcell 2 (by decide)).trans rfl,by rw [←e];exact hok _ (List.getElem_mem hj)⟩
end LO
end Go.Proofs.YtpcihajmcejliacGreatDoor
