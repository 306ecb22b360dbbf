/- The walk of the program's parser: a block. The walk of the program's parser: modules. The walk of syntax.Parse: its recover, its two results. The parser in plain Lean: enough fuel always; and what scanning a text gives. What scanning a text gives the parser. -/
import Derived.Deep.LoopGhost
import Derived.Defers
import Derived.Recover
import Derived.Test.YtpcihajmcejliacGreatDoorName
import Derived.Test.YtpcihajmcejliacGreatDoorSynC
import Derived.Test.YtpcihajmcejliacGreatDoorSyn7
import Derived.Test.YtpcihajmcejliacGreatDoorSyn3
namespace Go.Proofs.YtpcihajmcejliacGreatDoor
open Go.RowKit
namespace bH
set_option maxRecDepth 100000 in
set_option maxHeartbeats 4000000 in
theorem rX {n:Nat} (ih:∀ m,m≤n→Good m) {W w:World} {S E:Nat} {l:List Tk} (h:bW W w S E l) (hm:dG W) (hne:bn (n+1) .block l≠.out) :
  Calls Tryz.prog 229 #[.pointer (some ⟨S,0,none⟩)] w (gU (VN w.heap.size) W w S E (bn (n+1) .block l)):=by
 obtain⟨T,hT⟩:∃ T,bn (n+1) .block l=T:=⟨_,rfl⟩;rw [hT] at hne ⊢;simp only [bn] at hT;have HT:=Z_ hT;have jO:=Z_ hne;have HM:=Z_ hm;have hSl:=h.lt;have h1:=h.alloc (.cells cG 24);have h2:=h1.alloc (.cells #[.string r_] 9);have HN:=Z_ (dV h2 (w.heap.size+1) 1 r_ ((aJ.made2 w (.cells cG 24) #[.string r_] 9).cell 0));have PX:Hid (aB (fun i=>i=S) w ((w.alloc (.cells cG 24)).alloc (.cells #[.string r_] 9))):=Z_ (((aB.refl _ _).alloc _).alloc _);have HA0:=Z_ ((aJ.made w cG 24).alloc (.cells #[.string r_] 9));obtain⟨A,hA⟩:∃ A,w.heap.size=A:=⟨_,rfl⟩;rw [hA] at HN HA0;clear h h1 h2 hm hne hT;unfold cG at HN PX HA0;go_enter Tryz.func229,Tryz.ntmps229
 go_wp2_with fail
 refine HN.out.mono ?_
 rintro e w1 hr;obtain⟨OJ,⟨l1,hp,rfl⟩|⟨x1,l1,v1,hp,rfl,rfl,hP1⟩⟩:=hr.cases (eX _ _)
 ·have HF:=Z_ (Out.aH HT.out hp)
  have JS:=Z_ (PX.out.then OJ);clear hr hp OJ;go_wp2_with fail
  exact⟨rfl,gU.fails JS.out HF.out⟩
 ·have HT1:=Z_ (Out.aI HT.out hp)
  have JS:=Z_ (PX.out.then OJ);have Y5:=Z_ (HA0.out.aU OJ (by omega));have U7:=Z_ hP1;clear hr hp OJ hP1 HN PX HA0 HT;go_wp2_with fail
  refine(fG _ _ _ _ _ _ _).mono ?_
  rintro e w2 ⟨rfl,hE2⟩;have uS:=(U7.out.extend hE2).alloc (.cells #[.int .i64 6,.string ⟨#[]⟩,.int .i64 0,.slice none 0 0] 24);have hAw:=(Y5.out.ext hE2).lt;have hB2:=lD.start (kind:=6) (text:=⟨#[]⟩) (num:=0) uS ((JS.out.ext hE2).alloc _) ((Y5.out.ext hE2).alloc _) (aJ.made w2 _ _) hSl (by omega) hAw (KX uS);have HB2:=Z_ hB2;clear uS hE2 hB2 Y5 U7 JS;obtain⟨N,hN⟩:∃ N,w2.heap.size=N:=⟨_,rfl⟩;rw [hN] at HB2;go_wp2_with fail
  generalize w2.alloc (.cells #[.int .i64 6,.string ⟨#[]⟩,.int .i64 0,.slice none 0 0] 24)=w3 at *;go_loopg [] n (fun k wr=>∃ l acc row,k≤n∧Hid (bn k (.stats acc) l=T)∧Hid (lD W w wr S E A N l 6 ⟨#[]⟩ 0 row row acc))
  case atStart=>exact⟨l1,[],.slice none 0 0,Nat.le_refl _,HT1,HB2⟩
  case round=>
   obtain⟨lr,acc,row,hkn,hTr,HB⟩:=hrel;cases gk with
   | zero=>exact absurd hTr.out.symm jO.out
   | succ m=>
    have Zw:=hTr.out;simp only [bn] at Zw;have HTR:=Z_ Zw;have HH:=Z_ (eP HB.out.pr qg);have iY:=Z_ (fun (h:eY lr [qg]=true)=>bZ.bg h);generalize eY lr [qg]=R at *;clear hTr Zw;go_wp2_with fail
    refine HH.out.mono ?_
    rintro e w4 ⟨rfl,Ui,Zq⟩;cases R with
    | true=>
     have HB4:=Z_ (HB.out.call Ui (by simpa using Zq:bW W w4 S E lr.tail) (by have:=iY.out rfl;omega));have HT4:=Z_ (show T=.got (.mk 6 ⟨#[]⟩ 0 acc) lr.tail by have:=HTR.out;rw [if_pos rfl] at this;exact this.symm);clear Ui Zq HB;obtain⟨ra,rc,rfl⟩:=HB4.out.slice;have c0:=HB4.out.nd.cell 0;have c1:=HB4.out.nd.cell 1;have c2:=HB4.out.nd.cell 2;have c3:=HB4.out.nd.cell 3;have r0:=HB4.out.res.cell;have rf:=HB4.out.res.frozen;have rl:=HB4.out.res.lt;unfold cG at r0;simp at c0 c1 c2 c3
     go_wp2_with fail
     refine cO rfl rfl rfl ((((HB4.out.res.set 0 _).set 1 _).set 2 _).set 3 _) Tryz.underlying24 rfl (by kernel_rfl) ?_
     exact HB4.out.ret (by decide) HT4.out _ _ _ _
    | false=>
     have HB:=Z_ (HB.out.call Ui (by simpa using Zq:bW W w4 S E lr) (Nat.le_refl _));have HT4:=Z_ (show (bn m .stat lr).bind (fun x l=>bn m (.stats (acc ++ [x])) l)=T by have:=HTR.out;simpa using this);clear Ui Zq HTR iY HH;go_upto_region 4 with (fail)
     refine aj [3,4,5,7] (fun i v _=>v=([.pointer (some ⟨N,3,none⟩),row,.pointer (some ⟨S,0,none⟩),undef,undef,undef,.pointer (some ⟨N,3,none⟩),undef]:List Value).getD i undef) (iM W w S E A N lr 6 ⟨#[]⟩ 0 row acc (bn m .stat lr)) (fun _ _=>True) (frame:=?Kv) (fun x=>?xj) mixed (by kernel_rfl) (by kernel_rfl) (fun _ _ _ _ h _=>h) ?Kw ?Ky ?xk
     case xj=>
      simp only [chain.aS,chain.fill,chain.bT,chain.bC,oV,oW,oZ,o5,o6,o7,o8,o_,pq];exact rfl
     case Kw=>exact HB.out.extend (aB.refl _ _).drew
     case Ky=>
      iterate 8 (refine ak.cons (fun x vs u hF hm hb hd K' hK'=>?_) ?_;rotate_left)
      exact ak.nil
      ·have HF:=Z_ hF;clear hd hm hb hF;go_simp;exact hK'.out _ _ _ rfl trivial ⟨rfl,HF.out⟩
      ·have y0:x 11=.pointer (some ⟨N,3,none⟩):=(D_ hd 0 :);have hc:=hF.cell (by have:=hb 2 _ (by decide) rfl (by kernel_rfl);omega);have HF:=Z_ hF;clear hd hm hb hF;go_simp;exact hK'.out _ _ _ (by simp only [y0];rfl) trivial ⟨rfl,HF.out⟩
      ·have HF:=Z_ hF;clear hd hm hb hF;go_simp;exact hK'.out _ _ _ rfl trivial ⟨rfl,HF.out⟩
      ·have y0:x 13=.pointer (some ⟨S,0,none⟩):=(D_ hd 2 :);obtain rfl:=pR hm;have HF:=Z_ (show lD _ _ _ _ _ _ _ _ _ _ _ _ _ _ from hF);clear hd hm hb hF;have mM:=Z_ (ih m (by omega) .stat _ _ HF.out.pr HM.out rfl trivial (Out.bI HT4.out jO.out));go_simp;refine mM.out.mono ?_
       rintro e u2 hr;obtain⟨hC,⟨lb,hp,rfl⟩|⟨xn,ln,v,hp,rfl,hv,hP⟩⟩:=hr.cases (Out.bI HT4.out jO.out)
       ·have HE:=Z_ (Out.aH HT4.out hp)
        have HC:=Z_ (HF.out.aU.then hC);clear hr hp hC hK' mM;go_wp2_with fail
        exact⟨rfl,gU.fails HC.out HE.out⟩
       ·exact hK'.out _ _ _ (by simp only [y0];rfl) trivial (jb HF.out hC hp hv hP (bZ.fM _ _ _ _ _ hp))
      ·obtain⟨v0,rfl⟩:=rE hm
       have y0:x 14=v0:=((D_ hd 3) 14 (by kernel_rfl) :);have hcl:∃ a b c d,v0=.agg #[a,b,c,d]:=by obtain⟨xn,ln,_,_,_,hx⟩:=hF;obtain⟨a,b,c,d,h,_⟩:=b_ hx;exact⟨a,b,c,d,h⟩
       obtain⟨a0,b0,c0,d0,rfl⟩:=hcl;have HF:=Z_ hF;clear hd hm hb hF;go_simp;exact hK'.out _ _ _ (by simp only [y0];rfl) trivial (fZ HF.out rfl)
      ·obtain⟨v0,v1,rfl⟩:=yP hm
       have y0:x 12=row:=(D_ hd 1 :);have y1:x 15=v1:=((D_ hd 4) 15 (by kernel_rfl) :);have hF2:=hF;obtain⟨xn,ln,hT1,aY,hfew,hx,gg,rfl,hgb,hgr⟩:=hF2;obtain⟨us,hu1,ho,hu3⟩:=aY.grow.ex;have hlt:=aY.lt;obtain⟨mg,mD,hz0,hz1,hz2⟩:=bD gK;refine wp_append_lies _ _ _ 22 rfl (N+1) 24 mg (.agg #[.int .i64 0,.string ⟨#[]⟩,.int .i64 0,.slice none 0 0]) 4 56 Tryz.underlying22 mD hz0 hz1 hz2 rfl (by decide) row acc.length (us.flatMap fun u=>u.cells.toList) y0 ho ⟨gg,0,none⟩ 1 1 v0.cells.toList y1 (by rw [Array.length_toList,gY hx]) ?_ (by obtain⟨a,b,c,d,e,e2,p1,p2,p3,p4⟩:=b_ hx;rw [e2];intro q hq;simp at hq;rcases hq with rfl|rfl|rfl|rfl<;>assumption) (by decide) (by unfold maxLen;omega) (by omega) (by omega) u.heap.size rfl ?_
       ·intro j q hj;have e:(⟨gg,0,none⟩:Addr).add j=⟨gg,j,none⟩:=(by unfold Addr.add;split<;>simp_all);rw [e,hgb.cell];simpa using hj
       ·intro g9 c9 w9 kQ kM mF yK
        exact hK'.out _ _ _ rfl trivial (push_append hF hu1 hu3 kQ kM mF)
      ·have HF:=Z_ hF;clear hd hm hb hF;go_simp;exact hK'.out _ _ _ rfl trivial ⟨rfl,HF.out⟩
      ·obtain⟨v0,v1,v2,rfl⟩:=F_ hm
       have y0:x 17=.pointer (some ⟨N,3,none⟩):=(D_ hd 6 :);have y1:x 16=v2:=((D_ hd 5) 16 (by kernel_rfl) :);have hF2:=hF;obtain⟨xn,ln,hT1,aY,gg,cc,rfl⟩:=hF2;have hc:=aY.nd.cell 3;have hf:=aY.nd.frozen 3;have hl:=aY.lt;simp at hc
       have HF:=Z_ hF;clear hd hm hb hF aY hT1;go_simp;exact hK'.out _ _ undef (by simp only [y0,y1];rfl) trivial (f_ HF.out)
     case xk=>
      intro x vs w9 hl hF hk;obtain⟨v0,v1,v2,v3,rfl⟩:=Gf hl
      obtain⟨xn,ln,hT1,nT⟩:=hF;clear hk hl;have pW:=Z_ (Out.aI HT4.out hT1.out);have HB9:=Z_ nT;clear hT1 nT;go_wp2_with fail
      go_roundg m
      case rel=>exact⟨ln,acc ++ [xn],v2,by omega,pW,HB9⟩
      case measure=>omega
end bH
end Go.Proofs.YtpcihajmcejliacGreatDoor
namespace Go.Proofs.YtpcihajmcejliacGreatDoor
open Go.RowKit
namespace bH
set_option maxRecDepth 100000 in
set_option maxHeartbeats 4000000 in
theorem K_ {n:Nat} (ih:∀ m,m≤n→Good m) {W w:World} {S E:Nat} {l:List Tk} (h:bW W w S E l) (hm:dG W) (hne:bn (n+1) (.module) l≠.out) :
  Calls Tryz.prog 48 #[.pointer (some ⟨S,0,none⟩)] w (gU (VN w.heap.size) W w S E (bn (n+1) (.module) l)):=by
 obtain⟨T,hT⟩:∃ T,bn (n+1) (.module) l=T:=⟨_,rfl⟩;rw [hT] at hne ⊢;simp only [bn] at hT;have HT:=Z_ hT;have jO:=Z_ hne;have HM:=Z_ hm;have az:Hid (At W w (w.alloc (.cells #[.int .i64 0,.string ⟨#[]⟩,.int .i64 0,.slice none 0 0] 24)) S E w.heap.size l):=Z_ (At.start h);obtain⟨A,hA⟩:∃ A,w.heap.size=A:=⟨_,rfl⟩;rw [hA] at az;have VY:S<A:=by have:=h.lt;omega
 clear h hm hne hT;go_enter Tryz.func48,Tryz.ntmps48
 go_upto_region 1 with (fail)
 generalize w.alloc (.cells #[.int .i64 0,.string ⟨#[]⟩,.int .i64 0,.slice none 0 0] 24)=u0 at *;have HN:=Z_ (dV (az.out.pr.alloc (.cells #[.string nK] 9)) u0.heap.size 1 nK ((aJ.made u0 #[.string nK] 9).cell 0));have h_:=(aB.refl (fun _=>False) u0).alloc (.cells #[.string nK] 9);replace az:=Z_ (az.out.extend h_);clear h_;go_wp2_with fail
 refine HN.out.mono ?_
 rintro e u1 hr;obtain⟨hC,⟨lb,hp,rfl⟩|⟨_,l1,_,hp,rfl,rfl,hP⟩⟩:=hr.cases (eX _ _)
 ·have HF:=Z_ (Out.aH HT.out hp)
  have HC:=Z_ (az.out.aU.then hC);clear hr hp hC;go_wp2_with fail
  exact⟨rfl,gU.fails HC.out HF.out⟩
 replace HT:=Z_ (Out.aI HT.out hp);replace az:=Z_ (az.out.call hC hP);clear hr hp hC hP HN;have HN:=Z_ (name_any az.out.pr HM.out);go_wp2_with fail
 refine HN.out.mono ?_
 rintro e u2 hr;obtain⟨hC,⟨lb,hp,rfl⟩|⟨s2,l2,v,hp,rfl,⟨rfl,hs⟩,hP⟩⟩:=hr.cases (kH _)
 ·have HF:=Z_ (Out.aH HT.out hp)
  have HC:=Z_ (az.out.aU.then hC);clear hr hp hC;go_wp2_with fail
  exact⟨rfl,gU.fails HC.out HF.out⟩
 replace HT:=Z_ (Out.aI HT.out hp);replace az:=Z_ (az.out.call hC hP);have qI:=Z_ hs;clear hr hp hC hP HN;clear hs;generalize s2=s at *;go_wp2_with fail
 refine(fG _ _ _ _ _ _ _).mono ?_
 rintro e u3 ⟨rfl,hE⟩;replace az:=Z_ (az.out.extend hE);have HB:=Z_ ((az.out.alloc (.cells #[.int .i64 (1),.string s,.int .i64 (0),.slice none 0 0] 24)).bld (aJ.made u3 _ _) az.out.lt);obtain⟨N,hN⟩:∃ N,u3.heap.size=N:=⟨_,rfl⟩;rw [hN] at HB;clear hE az;go_upto_region 3 with (fail)
 generalize u3.alloc (.cells #[.int .i64 (1),.string s,.int .i64 (0),.slice none 0 0] 24)=v0 at *;have az:=Z_ HB.out.at;have HN:=Z_ (dV (az.out.pr.alloc (.cells #[.string aW] 9)) v0.heap.size 1 aW ((aJ.made v0 #[.string aW] 9).cell 0));have h_:=(aB.refl (fun _=>False) v0).alloc (.cells #[.string aW] 9);replace HB:=Z_ (HB.out.extend h_);replace az:=Z_ HB.out.at;clear h_;go_wp2_with fail
 refine HN.out.mono ?_
 rintro e u4 hr;obtain⟨hC,⟨lb,hp,rfl⟩|⟨_,l4,_,hp,rfl,rfl,hP⟩⟩:=hr.cases (eX _ _)
 ·have HF:=Z_ (Out.aH HT.out hp)
  have HC:=Z_ (az.out.aU.then hC);clear hr hp hC;go_wp2_with fail
  exact⟨rfl,gU.fails HC.out HF.out⟩
 replace HT:=Z_ (Out.aI HT.out hp);replace HB:=Z_ (HB.out.call hC hP (by have:=bZ.bz hp;omega));replace az:=Z_ HB.out.at;clear hr hp hC hP HN;go_wp2_with fail
 go_loopg [] n (fun k wr=>∃ l2 acc row,k≤n∧Hid (bn k (.imports s acc) l2=T)∧Hid (lD W w wr S E A N l2 1 s 0 row row acc))
 case atStart=>exact⟨l4,[],.slice none 0 0,Nat.le_refl _,HT,HB⟩
 clear HT HB az
 case round=>
  obtain⟨lr,acc,row,hkn,HT,HB⟩:=hrel;cases gk with
  | zero=>exact absurd HT.out.symm jO.out
  | succ m=>
   have HT0:=HT.out;clear HT;simp only [bn] at HT0;have HT:=Z_ HT0;clear HT0;have az:=Z_ HB.out.at;have HH:=Z_ (eP az.out.pr kz);have iY:=Z_ (fun (h:eY lr [kz]=true)=>bZ.bg h);generalize eY lr [kz]=R at *;go_wp2_with fail
   refine HH.out.mono ?_
   rintro e u5 ⟨rfl,hC,hP⟩;cases R with
   | false=>
    replace hP:bW W u5 S E lr:=by simpa using hP
    have HT0:=HT.out;clear HT;simp only [Bool.false_eq_true,↓reduceIte] at HT0;have HT:=Z_ HT0;clear HT0;replace HB:=Z_ (HB.out.call hC hP (Nat.le_refl _));replace az:=Z_ HB.out.at;clear hC hP HH iY;go_wp2_with fail
    go_loopg [] m (fun k wr=>∃ l2 acc row,k≤m∧Hid (bn k (.decls s acc) l2=T)∧Hid (lD W w wr S E A N l2 1 s 0 row row acc))
    case atStart=>exact⟨lr,acc,row,Nat.le_refl _,HT,HB⟩
    clear HT HB az
    case round=>
     obtain⟨ld,acc,row,hkm,HT,HB⟩:=hrel;cases gk with
     | zero=>exact absurd HT.out.symm jO.out
     | succ j=>
      have HT0:=HT.out;clear HT;simp only [bn] at HT0;have HT:=Z_ HT0;clear HT0;have az:=Z_ HB.out.at;obtain⟨ta,tn,tc,tk,P8,hlk,htn⟩:=BJ az.out.pr;have h0:=P8.cell 0;have h1:=P8.cell 1;simp at h0 h1
      have hSf:=P8.frozen;have hSl:=P8.lt;cases ld with
      | nil=>
       have HT0:=HT.out;clear HT;simp only [List.length_nil,↓reduceIte] at HT0;have HT:=Z_ HT0;clear HT0;simp only [List.length_nil,Nat.add_zero] at hlk;subst hlk;clear P8;go_wp2_with fail
       go_quiet (fail)
       replace HB:=Z_ (HB.out.extend ((aB.refl _ _).drewN nq));generalize World.drewN _ nq=w6 at *;clear h0 h1 hSf hSl;obtain⟨ra,rn,rc,hrow⟩:=HB.out.slice3
       first|subst hrow|clear hrow
       have c0:=HB.out.nd.cell 0;have c1:=HB.out.nd.cell 1;have c2:=HB.out.nd.cell 2;have c3:=HB.out.nd.cell 3;have r0:=HB.out.res.cell;have rf:=HB.out.res.frozen;have rl:=HB.out.res.lt;unfold cG at r0;simp at c0 c1 c2 c3
       go_wp2_with fail
       refine cO rfl rfl rfl ((((HB.out.res.set 0 _).set 1 _).set 2 _).set 3 _) Tryz.underlying24 rfl (by kernel_rfl) ?_
       exact HB.out.ret (by have:=qI.out;omega) (HT.out.symm) _ _ _ _
      | cons t r=>
       have HT0:=HT.out;clear HT;simp only [List.length_cons,Nat.add_one_ne_zero,↓reduceIte] at HT0;have HT:=Z_ HT0;clear HT0;have a81:(tk:Int)<(tn:Int):=by simp only [List.length_cons] at hlk;omega
       clear P8;go_wp2_with fail
       go_quiet (fail)
       replace HB:=Z_ (HB.out.extend ((aB.refl _ _).drewN nq));generalize World.drewN _ nq=w6 at *;replace az:=Z_ HB.out.at;clear h0 h1 hSf hSl;go_upto_region 8 with (fail)
       refine aj [3,4,5,7] (fun i v _=>v=([.pointer (some ⟨N,3,none⟩),row,.pointer (some ⟨S,0,none⟩),undef,undef,undef,.pointer (some ⟨N,3,none⟩),undef]:List Value).getD i undef) (iM W w S E A N (t::r) 1 s 0 row acc (bn j .decl (t::r))) (fun _ _=>True) (frame:=?JH) (fun x=>?wX) mixed (by kernel_rfl) (by kernel_rfl) (fun _ _ _ _ h _=>h) ?JI ?JJ ?wY
       case wX=>
        simp only [chain.aS,chain.fill,chain.bT,chain.bC,oV,oW,oZ,o5,o6,o7,o8,o_,pq];exact rfl
       case JI=>exact HB.out.extend (aB.refl _ _).drew
       case JJ=>
        iterate 8 (refine ak.cons (fun x vs u hF hm hb hd K' hK'=>?_) ?_;rotate_left)
        exact ak.nil
        ·have HF:=Z_ hF;clear hd hm hb hF;go_simp;exact hK'.out _ _ _ rfl trivial ⟨rfl,HF.out⟩
        ·have y0:x 36=.pointer (some ⟨N,3,none⟩):=(D_ hd 0 :);have hc:=hF.cell (by have:=hb 2 _ (by decide) rfl (by kernel_rfl);omega);have HF:=Z_ hF;clear hd hm hb hF;go_simp;exact hK'.out _ _ _ (by simp only [y0];rfl) trivial ⟨rfl,HF.out⟩
        ·have HF:=Z_ hF;clear hd hm hb hF;go_simp;exact hK'.out _ _ _ rfl trivial ⟨rfl,HF.out⟩
        ·have y0:x 38=.pointer (some ⟨S,0,none⟩):=(D_ hd 2 :);obtain rfl:=pR hm;have HF:=Z_ (show lD _ _ _ _ _ _ _ _ _ _ _ _ _ _ from hF);clear hd hm hb hF;have mM:=Z_ (ih j (by omega) .decl _ _ HF.out.pr HM.out rfl trivial (Out.bI HT.out jO.out));go_simp;refine mM.out.mono ?_
         rintro e u2 hr;obtain⟨hC,⟨lb,hp,rfl⟩|⟨xn,ln,v,hp,rfl,hv,hP⟩⟩:=hr.cases (Out.bI HT.out jO.out)
         ·have HE:=Z_ (Out.aH HT.out hp)
          have HC:=Z_ (HF.out.aU.then hC);clear hr hp hC hK' mM;go_wp2_with fail
          exact⟨rfl,gU.fails HC.out HE.out⟩
         ·exact hK'.out _ _ _ (by simp only [y0];rfl) trivial (jb HF.out hC hp hv hP (bZ.fM _ _ _ _ _ hp))
        ·obtain⟨v0,rfl⟩:=rE hm
         have y0:x 39=v0:=((D_ hd 3) 39 (by kernel_rfl) :);have hcl:∃ a b c d,v0=.agg #[a,b,c,d]:=by obtain⟨xn,ln,_,_,_,hx⟩:=hF;obtain⟨a,b,c,d,h,_⟩:=b_ hx;exact⟨a,b,c,d,h⟩
         obtain⟨a0,b0,c0,d0,rfl⟩:=hcl;have HF:=Z_ hF;clear hd hm hb hF;go_simp;exact hK'.out _ _ _ (by simp only [y0];rfl) trivial (fZ HF.out rfl)
        ·obtain⟨v0,v1,rfl⟩:=yP hm
         have y0:x 37=row:=(D_ hd 1 :);have y1:x 40=v1:=((D_ hd 4) 40 (by kernel_rfl) :);have hF2:=hF;obtain⟨xn,ln,hT1,aY,hfew,hx,gg,rfl,hgb,hgr⟩:=hF2;obtain⟨us,hu1,ho,hu3⟩:=aY.grow.ex;have hlt:=aY.lt;obtain⟨mg,mD,hz0,hz1,hz2⟩:=bD gK;refine wp_append_lies _ _ _ 22 rfl (N+1) 24 mg (.agg #[.int .i64 0,.string ⟨#[]⟩,.int .i64 0,.slice none 0 0]) 4 56 Tryz.underlying22 mD hz0 hz1 hz2 rfl (by decide) row acc.length (us.flatMap fun u=>u.cells.toList) y0 ho ⟨gg,0,none⟩ 1 1 v0.cells.toList y1 (by rw [Array.length_toList,gY hx]) ?_ (by obtain⟨a,b,c,d,e,e2,p1,p2,p3,p4⟩:=b_ hx;rw [e2];intro q hq;simp at hq;rcases hq with rfl|rfl|rfl|rfl<;>assumption) (by decide) (by unfold maxLen;omega) (by omega) (by omega) u.heap.size rfl ?_
         ·intro j q hj;have e:(⟨gg,0,none⟩:Addr).add j=⟨gg,j,none⟩:=(by unfold Addr.add;split<;>simp_all);rw [e,hgb.cell];simpa using hj
         ·intro g9 c9 w9 kQ kM mF yK
          exact hK'.out _ _ _ rfl trivial (push_append hF hu1 hu3 kQ kM mF)
        ·have HF:=Z_ hF;clear hd hm hb hF;go_simp;exact hK'.out _ _ _ rfl trivial ⟨rfl,HF.out⟩
        ·obtain⟨v0,v1,v2,rfl⟩:=F_ hm
         have y0:x 42=.pointer (some ⟨N,3,none⟩):=(D_ hd 6 :);have y1:x 41=v2:=((D_ hd 5) 41 (by kernel_rfl) :);have hF2:=hF;obtain⟨xn,ln,hT1,aY,gg,cc,rfl⟩:=hF2;have hc:=aY.nd.cell 3;have hf:=aY.nd.frozen 3;have hl:=aY.lt;simp at hc
         have HF:=Z_ hF;clear hd hm hb hF aY hT1;go_simp;exact hK'.out _ _ undef (by simp only [y0,y1];rfl) trivial (f_ HF.out)
       case wY=>
        intro x vs w9 hl hF hk;obtain⟨v0,v1,v2,v3,rfl⟩:=Gf hl
        obtain⟨xn,ln,hT1,nT⟩:=hF;clear hk hl;replace HT:=Z_ (Out.aI HT.out hT1.out);replace HB:=Z_ nT;clear hT1 nT;go_wp2_with fail
        go_roundg j
        case rel=>exact⟨ln,acc ++ [xn],v2,by omega,HT,HB⟩
        case measure=>omega
   | true=>
    replace hP:bW W u5 S E lr.tail:=by simpa using hP
    have HT0:=HT.out;clear HT;simp only [↓reduceIte] at HT0;have HT:=Z_ HT0;clear HT0;replace HB:=Z_ (HB.out.call hC hP (by have:=iY.out rfl;omega));replace az:=Z_ HB.out.at;clear hC hP HH iY;go_upto_region 5 with (fail)
    refine aj [3,4,5,6,8] (fun i v _=>v=([.pointer (some ⟨N,3,none⟩),row,.pointer (some ⟨S,0,none⟩),undef,undef,undef,undef,.pointer (some ⟨N,3,none⟩),undef]:List Value).getD i undef) (zN W w S E A N lr.tail 1 s 0 row acc 2 0) (fun _ _=>True) (frame:=?Kv) (fun x=>?xj) mixed (by kernel_rfl) (by kernel_rfl) (fun _ _ _ _ h _=>h) ?Kw ?Ky ?xk
    case xj=>
     simp only [chain.aS,chain.fill,chain.bT,chain.bC,oV,oW,oZ,o5,o6,o7,o8,o_,pq];exact rfl
    case Kw=>exact HB.out.extend (aB.refl _ _).drew
    case Ky=>
     iterate 9 (refine ak.cons (fun x vs u hF hm hb hd K' hK'=>?_) ?_;rotate_left)
     exact ak.nil
     ·have HF:=Z_ hF;clear hd hm hb hF;go_simp;exact hK'.out _ _ _ rfl trivial ⟨rfl,HF.out⟩
     ·have y0:x 15=.pointer (some ⟨N,3,none⟩):=(D_ hd 0 :);have hc:=hF.cell (by have:=hb 3 _ (by decide) rfl (by kernel_rfl);omega);have HF:=Z_ hF;clear hd hm hb hF;go_simp;exact hK'.out _ _ _ (by simp only [y0];rfl) trivial ⟨rfl,HF.out⟩
     ·have HF:=Z_ hF;clear hd hm hb hF;go_simp;exact hK'.out _ _ _ rfl trivial ⟨rfl,HF.out⟩
     ·have y0:x 17=.pointer (some ⟨S,0,none⟩):=(D_ hd 2 :);obtain rfl:=pR hm;have HF:=Z_ (show lD _ _ _ _ _ _ _ _ _ _ _ _ _ _ from hF);clear hd hm hb hF;have mM:=Z_ (name_any HF.out.pr HM.out);go_simp;refine mM.out.mono ?_
      rintro e u2 hr;obtain⟨hC,⟨lb,hp,rfl⟩|⟨sn,lx,v,hp,rfl,⟨rfl,hsz⟩,hP⟩⟩:=hr.cases (kH _)
      ·have HE:=Z_ (Out.aH HT.out hp)
       have HC:=Z_ (HF.out.aU.then hC);clear hr hp hC hK' mM;go_wp2_with fail
       exact⟨rfl,gU.fails HC.out HE.out⟩
      ·exact hK'.out _ _ _ (by simp only [y0];rfl) trivial (xA HF.out hC hp hsz hP)
     ·obtain⟨v0,rfl⟩:=rE hm
      have y0:x 18=v0:=((D_ hd 3) 18 (by kernel_rfl) :);have hcl:∃ s,v0=.string s:=by obtain⟨s,ln,_,e,_⟩:=hF;exact⟨s,e⟩
      obtain⟨sn,rfl⟩:=hcl;have HF:=Z_ hF;clear hd hm hb hF;go_simp;refine(fG _ _ _ _ _ _ _).mono ?_
      rintro e u2 ⟨rfl,hE⟩;exact hK'.out _ _ _ (by simp only [y0];rfl) trivial (xB HF.out hE)
     ·obtain⟨vz,v0,rfl⟩:∃ vz v0,vs=[vz,v0]:=by match vs,hm 2 (by kernel_rfl) with|[vz,v0],_=>exact⟨_,_,rfl⟩
      have y0:x 19=v0:=((D_ hd 4) 19 (by kernel_rfl) :);replace hF:iM W w S E A N lr.tail 1 s 0 row acc (qY 2 0 lr.tail) [v0] u:=hF;have hcl:∃ a b c d,v0=.agg #[a,b,c,d]:=by obtain⟨xn,ln,_,_,_,hx⟩:=hF;obtain⟨a,b,c,d,h,_⟩:=b_ hx;exact⟨a,b,c,d,h⟩
      obtain⟨a0,b0,c0,d0,rfl⟩:=hcl;have HF:=Z_ hF;clear hd hm hb hF;go_simp;exact hK'.out _ _ _ (by simp only [y0];rfl) trivial (fZ HF.out rfl)
     ·obtain⟨vz,v0,v1,rfl⟩:∃ vz v0 v1,vs=[vz,v0,v1]:=by match vs,hm 3 (by kernel_rfl) with|[vz,v0,v1],_=>exact⟨_,_,_,rfl⟩
      have y0:x 16=row:=(D_ hd 1 :);have y1:x 20=v1:=((D_ hd 5) 20 (by kernel_rfl) :);replace hF:iM W w S E A N lr.tail 1 s 0 row acc (qY 2 0 lr.tail) [v0,v1] u:=hF;have hF2:=hF;obtain⟨xn,ln,hT1,aY,hfew,hx,gg,rfl,hgb,hgr⟩:=hF2;obtain⟨us,hu1,ho,hu3⟩:=aY.grow.ex;have hlt:=aY.lt;obtain⟨mg,mD,hz0,hz1,hz2⟩:=bD gK;refine wp_append_lies _ _ _ 22 rfl (N+1) 24 mg (.agg #[.int .i64 0,.string ⟨#[]⟩,.int .i64 0,.slice none 0 0]) 4 56 Tryz.underlying22 mD hz0 hz1 hz2 rfl (by decide) row acc.length (us.flatMap fun u=>u.cells.toList) y0 ho ⟨gg,0,none⟩ 1 1 v0.cells.toList y1 (by rw [Array.length_toList,gY hx]) ?_ (by obtain⟨a,b,c,d,e,e2,p1,p2,p3,p4⟩:=b_ hx;rw [e2];intro q hq;simp at hq;rcases hq with rfl|rfl|rfl|rfl<;>assumption) (by decide) (by unfold maxLen;omega) (by omega) (by omega) u.heap.size rfl ?_
      ·intro j q hj;have e:(⟨gg,0,none⟩:Addr).add j=⟨gg,j,none⟩:=(by unfold Addr.add;split<;>simp_all);rw [e,hgb.cell];simpa using hj
      ·intro g9 c9 w9 kQ kM mF yK
       exact hK'.out _ _ _ rfl trivial (push_append hF hu1 hu3 kQ kM mF)
     ·have HF:=Z_ hF;clear hd hm hb hF;go_simp;exact hK'.out _ _ _ rfl trivial ⟨rfl,HF.out⟩
     ·obtain⟨vz,v0,v1,v2,rfl⟩:∃ vz v0 v1 v2,vs=[vz,v0,v1,v2]:=by match vs,hm 4 (by kernel_rfl) with|[vz,v0,v1,v2],_=>exact⟨_,_,_,_,rfl⟩
      have y0:x 22=.pointer (some ⟨N,3,none⟩):=(D_ hd 7 :);have y1:x 21=v2:=((D_ hd 6) 21 (by kernel_rfl) :);replace hF:iM W w S E A N lr.tail 1 s 0 row acc (qY 2 0 lr.tail) [v0,v1,v2] u:=hF;have hF2:=hF;obtain⟨xn,ln,hT1,aY,gg,cc,rfl⟩:=hF2;have hc:=aY.nd.cell 3;have hf:=aY.nd.frozen 3;have hl:=aY.lt;simp at hc
      have HF:=Z_ hF;clear hd hm hb hF aY hT1;go_simp;exact hK'.out _ _ undef (by simp only [y0,y1];rfl) trivial (f_ (z:=undef) HF.out)
    case xk=>
     intro x vs w9 hl hF hk;obtain⟨vz,v0,v1,v2,v3,rfl⟩:∃ vz v0 v1 v2 v3,vs=[vz,v0,v1,v2,v3]:=by match vs,hl with|[vz,v0,v1,v2,v3],_=>exact⟨_,_,_,_,_,rfl⟩
     obtain⟨xn,ln,hT1,nT⟩:=hF;clear hk hl;have hT2:=hT1.out;unfold qY at hT2;obtain⟨sn,lz,hq1,hq2⟩:=bZ.ag hT2;injection hq2 with hq3 hq4
     subst hq3 hq4;replace HT:=Z_ (Out.aI HT.out hq1);replace HB:=Z_ nT;replace az:=Z_ HB.out.at;clear hT1 nT hT2 hq1;have HN:=Z_ (dV (az.out.pr.alloc (.cells #[.string aW] 9)) w9.heap.size 1 aW ((aJ.made w9 #[.string aW] 9).cell 0));have h_:=(aB.refl (fun _=>False) w9).alloc (.cells #[.string aW] 9);replace HB:=Z_ (HB.out.extend h_);replace az:=Z_ HB.out.at;clear h_;go_wp2_with fail
     refine HN.out.mono ?_
     rintro e u7 hr;obtain⟨hC,⟨lb,hp,rfl⟩|⟨_,l7,_,hp,rfl,rfl,hP⟩⟩:=hr.cases (eX _ _)
     ·have HF:=Z_ (Out.aH HT.out hp)
      have HC:=Z_ (az.out.aU.then hC);clear hr hp hC;go_wp2_with fail
      exact⟨rfl,gU.fails HC.out HF.out⟩
     replace HT:=Z_ (Out.aI HT.out hp);replace HB:=Z_ (HB.out.call hC hP (by have:=bZ.bz hp;omega));replace az:=Z_ HB.out.at;clear hr hp hC hP HN;go_wp2_with fail
     go_roundg m
     case rel=>exact⟨l7,acc ++ [.mk 2 sn 0 []],v2,by omega,HT,HB⟩
     case measure=>omega
theorem Sm:∀ n,Good n:=by
 intro n;induction n using Nat.strongRecOn with
 | _ n IH=>
  cases n with
  | zero=>intro W w S E l X f a _ _ _ _ hne;exact absurd (by cases X<;>rfl) hne
  | succ n=>
   have ih:∀ m,m≤n→Good m:=fun m hm=>IH m (by omega)
   intro W w S E l X f a h hm ha hk hne;cases X with
   | expr=>cases ha;exact qj ih h hm hne
   | bound k=>cases ha;exact PM ih h hm hk hne
   | unary=>cases ha;exact PK ih h hm hne
   | asked=>cases ha;exact tq ih h hm hne
   | place s=>cases ha;exact v_ ih h hm hk hne
   | call s=>cases ha;exact AK ih h hm hk hne
   | block=>cases ha;exact rX ih h hm hne
   | stat=>cases ha;exact uZ ih h hm hne
   | decl=>cases ha;exact TQ ih h hm hne
   | proc pub=>cases ha;exact Cj ih h hm hk hne
   | module=>cases ha;exact K_ ih h hm hne
   | loop k x=>cases ha
   | args s acc=>cases ha
   | stats acc=>cases ha
   | params s pub acc=>cases ha
   | imports s acc=>cases ha
   | decls s acc=>cases ha
end bH
end Go.Proofs.YtpcihajmcejliacGreatDoor
namespace Go.Proofs.YtpcihajmcejliacGreatDoor
open Go.RowKit
theorem m_ {P:Program} {fn:Func} {p q:Tmp} {ty LJ:TypeId} (h:fn.results=#[.cell p ty,.cell q LJ]) (tmps:Array Value) (w:World) {g g2:Nat} {T T2:TypeId} {cs UU:Array Value} {d d2:TypeDesc}
  (hp:tmps.getD p undef=.pointer (some ⟨g,0,none⟩)) (hg:aJ w g cs T) (hu:P.underlying ty=some d) (hd:(match d with|.struct _|.array _ _=>true|_=>false)=true) (hi:(P.info? ty).map (·.size)=some cs.size)
  (hq:tmps.getD q undef=.pointer (some ⟨g2,0,none⟩)) (hg2:aJ w g2 UU T2) (hu2:P.underlying LJ=some d2) (hd2:(match d2 with|.struct _|.array _ _=>true|_=>false)=true) (hi2:(P.info? LJ).map (·.size)=some UU.size) :
  (results fn tmps).run P w=.ok (.tuple #[.agg cs,.agg UU]) w:=by
 have hp':tmps[p]?.getD undef=.pointer (some ⟨g,0,none⟩):=by simpa using hp
 have hq':tmps[q]?.getD undef=.pointer (some ⟨g2,0,none⟩):=by simpa using hq
 simp [results,h,hp',hq',asAddr,run_loadVar_row w g T ty cs (0,0) d hg hu hd hi,run_loadVar_row w g2 T2 LJ UU (0,0) d2 hg2 hu2 hd2 hi2]
namespace bH
theorem Zx (v:Value) (w:World):(Instr.typeAssert (.iface 105 v) 20 105 true).run Tryz.prog w=.ok (.tuple #[v,.bool true]) w:=by kernel_rfl
def vg (R F:Nat) (p:Int) (w:World) (e:Exit) (a:Act) (w':World):Prop:=e=.normal∧a.defers=[]∧aJ w' R cG 24∧aJ w' F #[.int .i64 2,.int .i64 p] 27∧aB (fun i=>i=R∨i=F) w w'
def qi (R F B:Nat) (p:Int) (w0:World) (cs fs:Array Value):List Value→World→Prop
 | [],u=>aJ u R cs 24∧aJ u F fs 27∧aB (fun i=>i=R∨i=F) w0 u∧aJ u B #[.int .i64 p] 105
 | [_],u=>aJ u R cG 24∧aJ u F fs 27∧aB (fun i=>i=R∨i=F) w0 u∧aJ u B #[.int .i64 p] 105
 | _,u=>aJ u R cG 24∧aJ u F #[.int .i64 2,.int .i64 p] 27∧aB (fun i=>i=R∨i=F) w0 u∧aJ u B #[.int .i64 p] 105
theorem qi.b {R F B:Nat} {p:Int} {w0 u:World} {cs fs:Array Value} {vs:List Value} (h:qi R F B p w0 cs fs vs u):aJ u B #[.int .i64 p] 105:=by
 match vs,h with
 | [],h=>exact h.2.2.2
 | [_],h=>exact h.2.2.2
 | _::_::_,h=>exact h.2.2.2
set_option maxRecDepth 100000 in
set_option maxHeartbeats 4000000 in
theorem Ij (R F:Nat) (cs fs:Array Value) (p:Int) (w:World) (hR:aJ w R cs 24) (hcs:cs.size=4) (hF:aJ w F fs 27) (hfs:fs.size=2) (hne:R≠F) :
  CallsD Tryz.prog 47 #[.pointer (some ⟨R,0,none⟩),.pointer (some ⟨F,0,none⟩)] (.panicking (OL p)) w fun e u' w'=>
   e=.returned (.tuple #[])∧u'=.panicking [{ v:=.iface 105 (.agg #[.int .i64 p]),recovered:=true }]∧aJ w' R cG 24∧aJ w' F #[.int .i64 2,.int .i64 p] 27∧aB (fun i=>i=R∨i=F) w w':=by
 have hta:=Zx;have JL:=hR.lt;have JM:=hF.lt
 obtain⟨c0,c1,c2,c3,rfl⟩:∃ c0 c1 c2 c3,cs=#[c0,c1,c2,c3]:=by
  obtain⟨l⟩:=cs;match l,hcs with
  | [c0,c1,c2,c3],_=>exact⟨_,_,_,_,rfl⟩
 obtain⟨f0,f1,rfl⟩:∃ f0 f1,fs=#[f0,f1]:=by
  obtain⟨l⟩:=fs;match l,hfs with
  | [f0,f1],_=>exact⟨_,_,rfl⟩
 clear hcs hfs;obtain⟨B,hB⟩:∃ B,w.heap.size=B:=⟨_,rfl⟩;have hB0:=aJ.made w #[.int .i64 p] 105;rw [hB] at hB0 JL JM;have hR0:=hR.alloc (.cells #[.int .i64 p] 105);have oO:=hF.alloc (.cells #[.int .i64 p] 105);have uQ:=(aB.refl (fun i=>i=R∨i=F) w).alloc (.cells #[.int .i64 p] 105);refine callsD_of_wpS Tryz.func47 rfl fun c₀ cs hu=>?_
 unfold OL at hu;apply wpS_seq
 apply wpS_region
 simp [wpOpsS,go_sem,recoverD,hu,Tryz.ntmps47,Exit.thenS]
 simp only [Array.replicate,List.replicate,List.append_toArray,List.setIfInBounds_toArray,List.set_cons_zero,List.set_cons_succ,List.cons_append,List.nil_append];refine wpS_of_wp (Code.wp_mono (Q:=vg R F p w) ?_ ?_)
 ·rintro e a w1 ⟨rfl,hd,h1,h2,h3⟩
  exact⟨hd,_,rfl,_,results_none rfl _ _ _,rfl,rfl,h1,h2,h3⟩
 clear hu;have HR0:=Z_ hR0;have vP:=Z_ oO;have HX0:=Z_ uQ;have HB0:=Z_ hB0;clear hR hF hR0 oO uQ hB0;unfold vg;go_upto_region 7 with (fail)
 generalize w.alloc (.cells #[.int .i64 p] 105)=u0 at *;refine aj [4,5] (fun i v _=>v=([.agg #[.int .i64 0,.string ⟨#[]⟩,.int .i64 0,.slice none 0 0],.pointer (some ⟨B,0,none⟩),.int .i64 p,.agg #[.int .i64 2,.int .i64 p],undef,undef]:List Value).getD i undef) (qi R F B p w #[c0,c1,c2,c3] #[f0,f1]) (fun _ _=>True) (frame:=?fra) (fun x=>?hfa) mixed (by kernel_rfl) (by kernel_rfl) (fun _ _ _ _ h _=>h) ?h0 ?st ?fin
 case hfa=>
  simp only [chain.aS,chain.fill,chain.bT,chain.bC,oV,oW,oZ,o5,o6,o7,o8,o_,pq];exact rfl
 case h0=>exact⟨HR0.out.drew,vP.out.drew,HX0.out.drew,HB0.out.drew⟩
 case st=>
  iterate 6 (refine ak.cons (fun x vs u hF hm hb hd K' hK'=>?_) ?_;rotate_left)
  exact ak.nil
  ·have HF:=Z_ hF;clear hd hm hb hF;go_simp;exact hK'.out _ _ _ rfl trivial ⟨rfl,HF.out⟩
  ·have HF:=Z_ hF;clear hd hm hb hF;go_simp;exact hK'.out _ _ _ rfl trivial ⟨rfl,HF.out⟩
  ·have y0:x 12=.pointer (some ⟨B,0,none⟩):=(D_ hd 1 :);have hc:=hF.b.cell 0;simp at hc
   have HF:=Z_ hF;clear hd hm hb hF;go_simp;exact hK'.out _ _ _ (by simp only [y0];rfl) trivial ⟨rfl,HF.out⟩
  ·have y0:x 13=.int .i64 p:=(D_ hd 2 :);have HF:=Z_ hF;clear hd hm hb hF;go_simp;exact hK'.out _ _ _ (by simp only [y0];rfl) trivial ⟨rfl,HF.out⟩
  ·have y0:x 11=.agg #[.int .i64 0,.string ⟨#[]⟩,.int .i64 0,.slice none 0 0]:=(D_ hd 0 :);obtain rfl:=pR hm;obtain⟨g1,g2,g3,g4⟩:=(show _∧_ from hF);have hc:=g1.cell;have hf:=g1.frozen;have hl:=g1.lt;have HG:=Z_ (And.intro g1 (And.intro g2 (And.intro g3 g4)));clear hd hm hb hF g1 g2 g3 g4;go_simp;obtain⟨g1,g2,g3,g4⟩:=HG.out;exact hK'.out _ _ undef (by simp only [y0];rfl) trivial ⟨(((g1.set 0 _).set 1 _).set 2 _).set 3 _,(((g2.setOther (p:=⟨R,0,none⟩) (by show F≠R;omega) _).setOther (p:=⟨R,1,none⟩) (by show F≠R;omega) _).setOther (p:=⟨R,2,none⟩) (by show F≠R;omega) _).setOther (p:=⟨R,3,none⟩) (by show F≠R;omega) _,(((g3.setCell (p:=⟨R,0,none⟩) (fun _=>.inl rfl) _).setCell (p:=⟨R,1,none⟩) (fun _=>.inl rfl) _).setCell (p:=⟨R,2,none⟩) (fun _=>.inl rfl) _).setCell (p:=⟨R,3,none⟩) (fun _=>.inl rfl) _,(((g4.setOther (p:=⟨R,0,none⟩) (by show B≠R;omega) _).setOther (p:=⟨R,1,none⟩) (by show B≠R;omega) _).setOther (p:=⟨R,2,none⟩) (by show B≠R;omega) _).setOther (p:=⟨R,3,none⟩) (by show B≠R;omega) _⟩
  ·have y0:x 14=.agg #[.int .i64 2,.int .i64 p]:=(D_ hd 3 :);obtain⟨v0,rfl⟩:=rE hm
   obtain⟨g1,g2,g3,g4⟩:=(show _∧_ from hF);have hc:=g2.cell;have hf:=g2.frozen;have hl:=g2.lt;have HG:=Z_ (And.intro g1 (And.intro g2 (And.intro g3 g4)));clear hd hm hb hF g1 g2 g3 g4;go_simp;obtain⟨g1,g2,g3,g4⟩:=HG.out;exact hK'.out _ _ undef (by simp only [y0];rfl) trivial ⟨(g1.setOther (p:=⟨F,0,none⟩) hne _).setOther (p:=⟨F,1,none⟩) hne _,(g2.set 0 _).set 1 _,(g3.setCell (p:=⟨F,0,none⟩) (fun _=>.inr rfl) _).setCell (p:=⟨F,1,none⟩) (fun _=>.inr rfl) _,(g4.setOther (p:=⟨F,0,none⟩) (by show B≠F;omega) _).setOther (p:=⟨F,1,none⟩) (by show B≠F;omega) _⟩
 case fin=>
  intro x vs w9 hl hF hk;obtain⟨v0,v1,rfl⟩:=Ll hl
  obtain⟨g1,g2,g3,g4⟩:=(show _∧_ from hF);clear hk hl;have HG:=Z_ (And.intro g1 (And.intro g2 g3));clear hF g1 g2 g3 g4;go_wp2_with (fail)
  exact HG.out
theorem BN (R F:Nat) (w:World) :
  CallsD Tryz.prog 47 #[.pointer (some ⟨R,0,none⟩),.pointer (some ⟨F,0,none⟩)] .returning w fun e u' w'=>e=.returned (.tuple #[])∧u'=.returning∧w'=w:=by
 refine callsD_of_wpS Tryz.func47 rfl fun c₀ cs hu=>?_
 apply wpS_seq
 apply wpS_region
 simp [wpOpsS,go_sem,recoverD,hu,Tryz.ntmps47,Exit.thenS]
 simp only [Array.replicate,List.replicate,List.append_toArray,List.setIfInBounds_toArray,List.set_cons_zero,List.set_cons_succ,List.cons_append,List.nil_append];refine wpS_of_wp (Code.wp_mono (Q:=fun e a' w'=>e=.normal∧a'.defers=[]∧w'=w) ?_ ?_)
 ·rintro e a w1 ⟨rfl,hd,rfl⟩
  exact⟨hd,.returning,by cases c₀;simp_all,_,results_none rfl _ _ _,rfl,rfl,rfl⟩
 clear hu;go_wp2_with (fail)
end bH
end Go.Proofs.YtpcihajmcejliacGreatDoor
namespace Go.Proofs.YtpcihajmcejliacGreatDoor
open Go.RowKit
def NT.rank:NT→Nat
 | .loop _ _=>1
 | .unary=>4
 | .asked=>1
 | .place _=>1
 | .call _=>1
 | .bound k=>5+(4-k)
 | .expr=>10
 | .args _ _=>11
 | .block=>1
 | .stats _=>2
 | .stat=>1
 | .decl=>1
 | .proc _=>1
 | .params _ _ _=>1
 | .module=>1
 | .imports _ _=>3
 | .decls _ _=>2
namespace bZ
theorem a_ {α β : Type} {o:Out α} {f:α→List Tk→Out β} (h1:o≠.out) (h2:∀ x l,o=.got x l→f x l≠.out):o.bind f≠.out:=by
 cases o with
 | out=>exact absurd rfl h1
 | bad l=>intro h;cases h
 | got x l=>exact h2 x l rfl
theorem jI (s:ByteArray) (l:List Tk):dU s l≠.out:=by unfold dU;split<;>intro h<;>cases h
theorem qZ (l:List Tk):fP l≠.out:=by
 cases l with
 | nil=>intro h;cases h
 | cons t r=>
  simp only [fP,ne_eq];split<;>simp
theorem yH (l:List Tk):iO l≠.out:=by
 unfold iO;refine a_ (qZ _) fun s l _=>?_
 split
 ·exact a_ (qZ _) fun _ _ _ h=>by cases h
 ·intro h;cases h
theorem qG (l:List Tk):dJ l≠.out:=by
 unfold dJ;split
 ·intro h;cases h
 ·exact a_ (jI _ _) fun _ _ _ h=>by cases h
theorem Ew (l:List Tk):gu l≠.out:=by
 cases l with
 | nil=>intro h;cases h
 | cons t r=>
  simp only [gu,ne_eq];split<;>simp
theorem rq (x:Nd) (l:List Tk):nC x l≠.out:=a_ (jI _ _) fun _ _ _ h=>by cases h
theorem lT {α : Type} (x:α) (l:List Tk):Out.got x l≠.out:=fun h=>by cases h
theorem EO:∀ (n:Nat) (X:NT) (l:List Tk),20*l.length+X.rank<n→bn n X l≠.out:=by
 intro n;induction n with
 | zero=>intro X l h;omega
 | succ n ih=>
  intro X l h;cases X with
  | expr=>simp only [bn];exact ih _ _ (by simp only [NT.rank] at h ⊢;omega)
  | bound k=>
   simp only [bn];split
   ·exact ih _ _ (by simp only [NT.rank] at h ⊢;omega)
   ·refine a_ (ih _ _ (by simp only [NT.rank] at h ⊢;omega)) fun x r hx=>?_
    have a:=fM _ _ _ _ _ hx;exact ih _ _ (by simp only [NT.rank,NT.weak] at h a ⊢;omega)
  | loop k x=>
   simp only [bn];split
   ·rename_i hk
    have:=LU hk.1;refine a_ (ih _ _ (by simp only [NT.rank] at h ⊢;omega)) fun y r hy=>?_
    have a:=fM _ _ _ _ _ hy;split
    ·exact lT _ _
    ·exact ih _ _ (by simp only [NT.rank,NT.weak] at h a ⊢;omega)
   ·exact lT _ _
  | unary=>
   simp only [bn];split
   ·rename_i hb
    have:=bg hb;exact a_ (ih _ _ (by simp only [NT.rank] at h ⊢;omega)) fun _ _ _=>lT _ _
   split
   ·rename_i hb
    have:=bg hb;exact a_ (ih _ _ (by simp only [NT.rank] at h ⊢;omega)) fun _ _ _=>lT _ _
   split
   ·exact ih _ _ (by simp only [NT.rank] at h ⊢;omega)
   split
   ·exact Ew _
   ·refine a_ (yH _) fun s r hs=>?_
    have:=jG hs;split
    ·exact ih _ _ (by simp only [NT.rank] at h ⊢;omega)
    ·exact ih _ _ (by simp only [NT.rank] at h ⊢;omega)
  | asked=>
   simp only [bn];refine a_ (jI _ _) fun _ r hs=>?_
   have:=bz hs;refine a_ (ih _ _ (by simp only [NT.rank] at h ⊢;omega)) fun _ _ _=>a_ (jI _ _) fun _ _ _=>lT _ _
  | place s=>
   simp only [bn];split
   ·rename_i hb
    have:=bg hb;refine a_ (ih _ _ (by simp only [NT.rank] at h ⊢;omega)) fun _ _ _=>a_ (jI _ _) fun _ _ _=>lT _ _
   ·exact lT _ _
  | call s=>
   simp only [bn];refine a_ (jI _ _) fun _ r hs=>?_
   have:=bz hs;exact ih _ _ (by simp only [NT.rank] at h ⊢;omega)
  | args s acc=>
   simp only [bn];split
   ·exact a_ (jI _ _) fun _ _ _=>lT _ _
   ·refine a_ (ih _ _ (by simp only [NT.rank] at h ⊢;omega)) fun x r hx=>?_
    have a:=fM _ _ _ _ _ hx;split
    ·rename_i hb
     have:=bg hb;exact ih _ _ (by simp only [NT.rank,NT.weak] at h a ⊢;omega)
    ·exact a_ (jI _ _) fun _ _ _=>lT _ _
  | block=>
   simp only [bn];refine a_ (jI _ _) fun _ r hs=>?_
   have:=bz hs;exact ih _ _ (by simp only [NT.rank] at h ⊢;omega)
  | stats acc=>
   simp only [bn];split
   ·exact lT _ _
   ·refine a_ (ih _ _ (by simp only [NT.rank] at h ⊢;omega)) fun x r hx=>?_
    have a:=fM _ _ _ _ _ hx;exact ih _ _ (by simp only [NT.rank,NT.weak] at h a ⊢;omega)
  | stat=>
   simp only [bn];simp only [NT.rank] at h;split
   ·refine a_ (qG _) fun _ r h1=>a_ (qZ _) fun _ r2 h2=>a_ (jI _ _) fun _ r3 h3=>?_
    have:=fQ h1;have:=jR h2;have:=bz h3
    exact a_ (ih _ _ (by simp only [NT.rank];omega)) fun _ _ _=>rq _ _
   split
   ·rename_i hb
    have:=bg hb;refine a_ (yH _) fun _ r h1=>?_
    have:=jG h1;exact a_ (ih _ _ (by simp only [NT.rank];omega)) fun _ _ _=>rq _ _
   split
   ·rename_i hb
    have:=bg hb;refine a_ (ih _ _ (by simp only [NT.rank];omega)) fun _ _ h1=>?_
    have a:=fM _ _ _ _ _ h1;refine a_ (ih _ _ (by simp only [NT.rank];omega)) fun _ _ h2=>?_
    have b:=fM _ _ _ _ _ h2;split
    ·rename_i hb2
     have:=bg hb2;exact a_ (ih _ _ (by simp only [NT.rank];omega)) fun _ _ _=>lT _ _
    ·exact lT _ _
   split
   ·rename_i hb
    have:=bg hb;refine a_ (ih _ _ (by simp only [NT.rank];omega)) fun _ _ h1=>?_
    have a:=fM _ _ _ _ _ h1;exact a_ (ih _ _ (by simp only [NT.rank];omega)) fun _ _ _=>lT _ _
   split
   ·rename_i hb
    have:=bg hb;refine a_ (qG _) fun _ r h1=>?_
    have:=fQ h1;exact a_ (ih _ _ (by simp only [NT.rank];omega)) fun _ _ _=>rq _ _
   split
   ·rename_i hb
    have:=bg hb;refine a_ (qG _) fun _ r h1=>a_ (yH _) fun _ r2 h2=>?_
    have:=fQ h1;have:=jG h2
    exact a_ (ih _ _ (by simp only [NT.rank];omega)) fun _ _ _=>rq _ _
   split
   ·rename_i hb
    have:=bg hb;exact a_ (ih _ _ (by simp only [NT.rank];omega)) fun _ _ _=>rq _ _
   ·refine a_ (yH _) fun _ r h1=>?_
    have:=jG h1;refine a_ (ih _ _ (by simp only [NT.rank];omega)) fun _ r2 h2=>?_
    have a:=fM _ _ _ _ _ h2;refine a_ (jI _ _) fun _ r3 h3=>?_
    have:=bz h3;exact a_ (ih _ _ (by simp only [NT.rank];omega)) fun _ _ _=>rq _ _
  | decl=>
   simp only [bn];simp only [NT.rank] at h
   obtain⟨l2,hl2,hle⟩:∃ l2,(if eY l [rL]=true then l.tail else l)=l2∧l2.length≤l.length:=by
    refine⟨_,rfl,?_⟩
    split
    ·rename_i hb;have:=bg hb;omega
    ·exact Nat.le_refl _
   rw [hl2];split
   ·rename_i hb
    have:=bg hb;exact ih _ _ (by simp only [NT.rank];omega)
   ·refine a_ (qG _) fun _ r h1=>a_ (qZ _) fun _ r2 h2=>?_
    split
    ·exact a_ (Ew _) fun _ _ _=>a_ (jI _ _) fun _ _ _=>rq _ _
    ·exact rq _ _
  | proc pub=>
   simp only [bn];simp only [NT.rank] at h;refine a_ (qZ _) fun _ r h1=>a_ (jI _ _) fun _ r2 h2=>?_
   have:=jR h1;have:=bz h2
   exact ih _ _ (by simp only [NT.rank];omega)
  | params s pub acc=>
   simp only [NT.rank] at h
   have done:∀ (acc:List Nd) (l2:List Tk),l2.length≤l.length→((dU aV l2).bind fun _ l=>(dJ l).bind fun b l=>
     if eY l [iJ]=true then (dJ l.tail).bind fun g l=>(bn n .block l).bind fun x l=>Out.got (Nd.mk 4 s (pub+b+(4+4*g)) (acc ++ [x])) l
     else (bn n .block l).bind fun x l=>Out.got (Nd.mk 4 s (pub+b) (acc ++ [x])) l)≠Out.out:=by
    intro acc l2 hle;refine a_ (jI _ _) fun _ r h1=>a_ (qG _) fun _ r2 h2=>?_
    have:=bz h1;have:=fQ h2
    split
    ·rename_i hb
     have:=bg hb;refine a_ (qG _) fun _ r3 h3=>?_
     have:=fQ h3;exact a_ (ih _ _ (by simp only [NT.rank];omega)) fun _ _ _=>lT _ _
    ·exact a_ (ih _ _ (by simp only [NT.rank];omega)) fun _ _ _=>lT _ _
   simp only [bn];split
   ·exact done _ _ (Nat.le_refl _)
   ·refine a_ (qG _) fun _ r h1=>a_ (qZ _) fun _ r2 h2=>?_
    have:=fQ h1;have:=jR h2
    split
    ·rename_i hb
     have:=bg hb;exact ih _ _ (by simp only [NT.rank];omega)
    ·exact done _ _ (by omega)
  | module=>
   simp only [bn];simp only [NT.rank] at h;refine a_ (jI _ _) fun _ r h1=>a_ (qZ _) fun _ r2 h2=>a_ (jI _ _) fun _ r3 h3=>?_
   have:=bz h1;have:=jR h2;have:=bz h3
   exact ih _ _ (by simp only [NT.rank];omega)
  | imports s acc=>
   simp only [bn];simp only [NT.rank] at h;split
   ·rename_i hb
    have:=bg hb;refine a_ (qZ _) fun _ r2 h2=>a_ (jI _ _) fun _ r3 h3=>?_
    have:=jR h2;have:=bz h3
    exact ih _ _ (by simp only [NT.rank];omega)
   ·exact ih _ _ (by simp only [NT.rank];omega)
  | decls s acc=>
   simp only [bn];simp only [NT.rank] at h;split
   ·exact lT _ _
   ·refine a_ (ih _ _ (by simp only [NT.rank];omega)) fun x r hx=>?_
    have a:=fM _ _ _ _ _ hx;exact ih _ _ (by simp only [NT.rank,NT.weak] at a ⊢;omega)
end bZ
end Go.Proofs.YtpcihajmcejliacGreatDoor
namespace Go.Proofs.YtpcihajmcejliacGreatDoor
open Go.RowKit
def zq (s:ByteArray) (t:Tok):Tk:=⟨t.1,s.extract t.2.1 (t.2.1+t.2.2),t.2.1⟩
def n_ (s:ByteArray) (l:List Tok):List Tk:=l.map (zq s)
namespace Sl
theorem La {l:List UInt8} (h:iK l=0):pI l=true∧decFrom 0 l<9223372036854775808:=by
 unfold iK at h;split at h
 ·cases h
 ·rename_i h1
  split at h
  ·cases h
  ·split at h
   ·cases h
   ·rename_i h3
    exact⟨by simpa using h1,by omega⟩
theorem TU (l:List UInt8):(l.take (runN eM l)).all (fun c=>eM c.toNat)=true:=by
 rw [again.Ih,List.all_eq_true];intro x hx;have:=List.all_takeWhile (l:=l) (p:=fun c=>eM c.toNat);rw [List.all_eq_true] at this;exact this x hx
theorem Lc (s:ByteArray):∀ (T:List Tok) (j:Nat) (h:j<T.length) (i:Nat) (_:i<3),(kG s T)[j*3+i]? = (Tok.cells s T[j])[i]?:=by
 intro T;induction T with
 | nil=>intro j h;cases h
 | cons t r ih=>
  intro j h i hi;have hl:(Tok.cells s t).length=3:=rfl;have e:kG s (t::r)=Tok.cells s t++kG s r:=by simp [kG]
  rw [e];cases j with
  | zero=>rw [List.getElem?_append_left (by omega)];simp
  | succ j=>
   rw [List.getElem?_append_right (by omega),show (j+1)*3+i-(Tok.cells s t).length=j*3+i by omega,ih j (by simpa using h) i hi];simp
theorem aq4 (s:ByteArray) (hs:s.size≤3000) (t:Tok) (h:again.Good s.data.toList t):mQ (zq s t):=by
 obtain⟨k,p,n⟩:=t;obtain⟨h1,h2,h3⟩:=h;simp only at h1 h2 h3;have hlen:s.data.toList.length=s.size:=by rw [Array.length_toList];rfl
 have htx:(zq s (k,p,n)).text.data.toList=(s.data.toList.drop p).take n:=lex.kD s p n
 have hsz:(zq s (k,p,n)).text.size≤3000:=by
  have e:(zq s (k,p,n)).text.size=(zq s (k,p,n)).text.data.toList.length:=by rw [Array.length_toList];rfl
  rw [e,htx,List.length_take,List.length_drop];omega
 obtain⟨c,r,hm⟩:∃ c r,s.data.toList.drop p=c::r:=by
  cases hd:s.data.toList.drop p with
  | nil=>
   have:=congrArg List.length hd;rw [List.length_drop] at this;simp only [List.length_nil] at this;omega
  | cons c r=>exact⟨c,r,rfl⟩
 rw [hm] at h1 htx;simp only [tokF] at h1;split at h1
 ·rename_i hl
  simp only [Prod.mk.injEq] at h1;obtain⟨rfl,rfl,h4⟩:=h1
  have hn:runN eM (c::r)≤16:=by
   rcases Nat.lt_or_ge 16 (runN eM (c::r)) with h5|h5
   ·rw [if_pos h5] at h4;cases h4
   ·exact h5
  have hpos:1≤runN eM (c::r):=by simp [runN,eM,hl]
  refine⟨⟨by simp [zq],by simp [zq]⟩,hsz,fun _=>?_,fun e=>(by cases e),fun e=>(by cases e)⟩
  rw [htx];unfold kT;rw [TU,Bool.and_true,Bool.and_eq_true,decide_eq_true_eq,List.length_take];refine⟨?_,by omega⟩
  obtain⟨q,hq⟩:∃ q,runN eM (c::r)=q+1:=⟨runN eM (c::r)-1,by omega⟩;rw [hq,List.take_succ_cons];exact hl
 ·split at h1
  ·rename_i hl hd
   simp only [Prod.mk.injEq] at h1;obtain⟨rfl,rfl,h4⟩:=h1;have hpos:1≤runN eM (c::r):=by simp [runN,eM,hd]
   refine⟨⟨by simp [zq],by simp [zq]⟩,hsz,fun e=>(by cases e),fun _=>?_,fun e=>(by cases e)⟩
   rw [htx];obtain⟨h5,h6⟩:=La h4;refine⟨h5,?_,h6⟩
   obtain⟨q,hq⟩:∃ q,runN eM (c::r)=q+1:=⟨runN eM (c::r)-1,by omega⟩;rw [hq,List.take_succ_cons];simp
  ·rename_i hl hd
   simp only [Prod.mk.injEq] at h1;obtain⟨rfl,rfl,h4⟩:=h1;refine⟨⟨by simp [zq],by simp [zq]⟩,hsz,fun e=>(by cases e),fun e=>(by cases e),fun _=>?_⟩
   rw [htx];unfold kT
   have:headB ((c::r).take (nN (c::r)))=false:=by
    cases hs:nN (c::r) with
    | zero=>rfl
    | succ q=>
     rw [List.take_succ_cons];simpa [headB] using hl
   rw [this];rfl
theorem BM (s:ByteArray) (T:List Tok) (a:Nat) (h:jY s.data.toList=(T,0,a)):s.size≤3000∧(∀ t∈n_ s T,mQ t)∧T.length≤3001:=by
 have hlen:s.data.toList.length=s.size:=by rw [Array.length_toList];rfl
 have h0:=h;rw [jY] at h;split at h
 ·cases h
 ·rename_i hle
  obtain⟨h1,h2⟩:=again.D7 s.data.toList (s.data.toList.length+1) (fD false s.data.toList) [] (by simp);rw [h] at h1;refine⟨by omega,fun t ht=>?_,?_⟩
  ·obtain⟨t',ht',rfl⟩:=List.mem_map.1 ht
   exact aq4 s (by omega) t' (h1 t' ht')
  ·have:=lexTells.Ig (s.data.toList.length+1) s.data.toList (fD false s.data.toList) []
   rw [h] at this;simp only [List.length_nil] at this;omega
theorem Yz {w:World} {B:Nat} {s:ByteArray} {T:List Tok} {v:Value} (h:w.ownsRow B 195 3 v T.length (kG s T)) (hok:∀ t∈n_ s T,mQ t):∃ a c,v=.slice a T.length c∧H7 w a 0 (n_ s T):=by
 have h9:=h;obtain⟨h1,h2⟩:=h;rcases h2 with ⟨rfl,h0⟩|⟨g,cap,cur,rfl,hb,hh,-⟩
 ·refine⟨none,0,by rw [h0],fun j hj=>?_⟩
  simp [n_,h0] at hj
 ·refine⟨_,cap,rfl,fun j hj=>⟨g,0,rfl,(Array.getElem?_eq_some_iff.1 hh).1,?_⟩⟩
  have hjl:j<T.length:=by simpa [n_] using hj
  have e:(n_ s T)[j]=zq s T[j]:=by simp [n_]
  have hcell:∀ i,i<3→w.cell? ⟨g,0+(0+j)*3+i,none⟩=(Tok.cells s T[j])[i]?:=fun i hi=>by
   rw [show 0+(0+j)*3+i=j*3+i by omega,h9.cellAt (j*3+i) (by omega)];have:=Lc s T j hjl i hi;exact this
  rw [e];exact⟨(hcell 0 (by decide)).trans rfl,(hcell 1 (by decide)).trans rfl,(hcell 2 (by decide)).trans rfl,by rw [←e];exact hok _ (List.getElem_mem hj)⟩
end Sl
end Go.Proofs.YtpcihajmcejliacGreatDoor
