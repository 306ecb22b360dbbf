/- The walk of the program's parser: declarations. -/
import Derived.StillTactics
import Derived.Test.YtpcihajmcejliacGreatDoorSyn6
import Derived.Test.YtpcihajmcejliacGreatDoorSynD
namespace Go.Proofs.YtpcihajmcejliacGreatDoor
open Go.RowKit
namespace bH
theorem tJ {n:Int} (h0:0≤n) (h1:n≤100):IntKind.i64.wrap n=n∧wrap64 n=n:=⟨wrap_small n h0 (by omega),by unfold wrap64;omega⟩
theorem CW (l:List Tk):gu l≠.out:=by
 cases l with
 | nil=>intro h;cases h
 | cons t r=>
  simp only [gu,ne_eq];split<;>simp
set_option maxRecDepth 100000 in
set_option maxHeartbeats 4000000 in
theorem TQ {n:Nat} (ih:∀ m,m≤n→Good m) {W w:World} {S E:Nat} {l:List Tk} (h:bW W w S E l) (hm:dG W) (hne:bn (n+1) (.decl) l≠.out) :
  Calls Tryz.prog 98 #[.pointer (some ⟨S,0,none⟩)] w (gU (VN w.heap.size) W w S E (bn (n+1) (.decl) l)):=by
 obtain⟨T,hT⟩:∃ T,bn (n+1) (.decl) l=T:=⟨_,rfl⟩;rw [hT] at hne ⊢;simp only [bn] at hT;have HT:=Z_ hT;have jO:=Z_ hne;have HM:=Z_ hm;have az:Hid (At W w (w.alloc (.cells #[.int .i64 0,.string ⟨#[]⟩,.int .i64 0,.slice none 0 0] 24)) S E w.heap.size l):=Z_ (At.start h);obtain⟨A,hA⟩:∃ A,w.heap.size=A:=⟨_,rfl⟩;rw [hA] at az;have VY:S<A:=by have:=h.lt;omega
 clear h hm hne hT;go_enter Tryz.func98,Tryz.ntmps98
 go_upto_region 1 with (fail)
 generalize w.alloc (.cells #[.int .i64 0,.string ⟨#[]⟩,.int .i64 0,.slice none 0 0] 24)=u0 at *;go_upto_region 2 with (fail)
 have HH:=Z_ (eP az.out.pr rL);have iY:=Z_ (fun (h:eY l [rL]=true)=>bZ.bg h);generalize eY l [rL]=R at *;go_wp2_with fail
 refine HH.out.mono ?_
 rintro e u1 ⟨rfl,hC,hP⟩;cases R with
 | false=>
  replace hP:bW W u1 S E l:=by simpa using hP
  have HT0:=HT.out;clear HT;simp only [Bool.false_eq_true,↓reduceIte] at HT0;have HT:=Z_ HT0;clear HT0;replace az:=Z_ (az.out.call hC hP);clear hC hP HH iY;have HH:=Z_ (eP az.out.pr qh);have iY:=Z_ (fun (h:eY l [qh]=true)=>bZ.bg h);generalize eY l [qh]=R at *;go_wp2_with fail
  refine HH.out.mono ?_
  rintro e u2 ⟨rfl,hC,hP⟩;cases R with
  | false=>
   replace hP:bW W u2 S E l:=by simpa using hP
   have HT0:=HT.out;clear HT;simp only [Bool.false_eq_true,↓reduceIte] at HT0;have HT:=Z_ HT0;clear HT0;replace az:=Z_ (az.out.call hC hP);clear hC hP HH iY;have HN:=Z_ (cE az.out.pr);go_wp2_with fail
   refine HN.out.mono ?_
   rintro e u3 hr;obtain⟨hC,⟨lb,hp,rfl⟩|⟨b3,l3,v,hp,rfl,⟨rfl,hb0,hb1⟩,hP⟩⟩:=hr.cases (lM _)
   ·have HF:=Z_ (Out.aH HT.out hp)
    have HC:=Z_ (az.out.aU.then hC);clear hr hp hC;go_wp2_with fail
    exact⟨rfl,gU.fails HC.out HF.out⟩
   replace HT:=Z_ (Out.aI HT.out hp);replace az:=Z_ (az.out.call hC hP);have Ji:=Z_ (And.intro hb0 hb1);clear hr hp hC hP HN;clear hb0 hb1;have HT0:=HT.out;clear HT;simp only [Int.add_zero] at HT0;have HT:=Z_ HT0;clear HT0;have hw7:=tJ (n:=b3) (by have:=Ji.out;omega) (by have:=Ji.out;omega);obtain⟨hw8,Zo⟩:=hw7;have HN:=Z_ (name_any az.out.pr HM.out);go_wp2_with fail
   refine HN.out.mono ?_
   rintro e u4 hr;obtain⟨hC,⟨lb,hp,rfl⟩|⟨s4,l4,v,hp,rfl,⟨rfl,hs⟩,hP⟩⟩:=hr.cases (kH _)
   ·have HF:=Z_ (Out.aH HT.out hp)
    have HC:=Z_ (az.out.aU.then hC);clear hr hp hC;go_wp2_with fail
    exact⟨rfl,gU.fails HC.out HF.out⟩
   replace HT:=Z_ (Out.aI HT.out hp);replace az:=Z_ (az.out.call hC hP);have qI:=Z_ hs;clear hr hp hC hP HN;clear hs;go_wp2_with fail
   refine(fG _ _ _ _ _ _ _).mono ?_
   rintro e u5 ⟨rfl,hE⟩;replace az:=Z_ (az.out.extend hE);clear hw8 Zo;have HB:=Z_ ((az.out.alloc (.cells #[.int .i64 (3),.string s4,.int .i64 (b3),.slice none 0 0] 24)).bld (aJ.made u5 _ _) az.out.lt);obtain⟨N,hN⟩:∃ N,u5.heap.size=N:=⟨_,rfl⟩;rw [hN] at HB;clear hE az;go_upto_region 8 with (fail)
   generalize u5.alloc (.cells #[.int .i64 (3),.string s4,.int .i64 (b3),.slice none 0 0] 24)=v0 at *;have az:=Z_ HB.out.at;have HH:=Z_ (eP az.out.pr ov);have iY:=Z_ (fun (h:eY l4 [ov]=true)=>bZ.bg h);generalize eY l4 [ov]=R at *;go_wp2_with fail
   refine HH.out.mono ?_
   rintro e u6 ⟨rfl,hC,hP⟩;cases R with
   | false=>
    replace hP:bW W u6 S E l4:=by simpa using hP
    have HT0:=HT.out;clear HT;simp only [Bool.false_eq_true,↓reduceIte] at HT0;have HT:=Z_ HT0;clear HT0;replace HB:=Z_ (HB.out.call hC hP (Nat.le_refl _));replace az:=Z_ HB.out.at;clear hC hP HH iY;have HT0:=HT.out;clear HT;unfold nC at HT0;have HT:=Z_ HT0;clear HT0;have HN:=Z_ (dV (az.out.pr.alloc (.cells #[.string aW] 9)) u6.heap.size 1 aW ((aJ.made u6 #[.string aW] 9).cell 0));have h_:=(aB.refl (fun _=>False) u6).alloc (.cells #[.string aW] 9);replace HB:=Z_ (HB.out.extend h_);replace az:=Z_ HB.out.at;clear h_;go_wp2_with fail
    refine HN.out.mono ?_
    rintro e u7 hr;obtain⟨hC,⟨lb,hp,rfl⟩|⟨_,l7,_,hp,rfl,rfl,hP⟩⟩:=hr.cases (eX _ _)
    ·have HF:=Z_ (Out.aH HT.out hp)
     have HC:=Z_ (az.out.aU.then hC);clear hr hp hC;go_wp2_with fail
     exact⟨rfl,gU.fails HC.out HF.out⟩
    replace HT:=Z_ (Out.aI HT.out hp);replace HB:=Z_ (HB.out.call hC hP (by have:=bZ.bz hp;omega));replace az:=Z_ HB.out.at;clear hr hp hC hP HN;obtain⟨ra,rn,rc,hrow⟩:=HB.out.slice3
    first|subst hrow|clear hrow
    have c0:=HB.out.nd.cell 0;have c1:=HB.out.nd.cell 1;have c2:=HB.out.nd.cell 2;have c3:=HB.out.nd.cell 3;have r0:=HB.out.res.cell;have rf:=HB.out.res.frozen;have rl:=HB.out.res.lt;unfold cG at r0;simp at c0 c1 c2 c3
    go_wp2_with fail
    refine cO rfl rfl rfl ((((HB.out.res.set 0 _).set 1 _).set 2 _).set 3 _) Tryz.underlying24 rfl (by kernel_rfl) ?_
    exact HB.out.ret (by have:=qI.out;omega) (HT.out.symm) _ _ _ _
   | true=>
    replace hP:bW W u6 S E l4.tail:=by simpa using hP
    have HT0:=HT.out;clear HT;simp only [↓reduceIte] at HT0;have HT:=Z_ HT0;clear HT0;replace HB:=Z_ (HB.out.call hC hP (by have:=iY.out rfl;omega));replace az:=Z_ HB.out.at;clear hC hP HH iY;go_upto_region 9 with (fail)
    refine aj [3,4,5,7] (fun i v _=>v=([.pointer (some ⟨N,3,none⟩),(.slice none 0 0),.pointer (some ⟨S,0,none⟩),undef,undef,undef,.pointer (some ⟨N,3,none⟩),undef]:List Value).getD i undef) (iM W w S E A N l4.tail 3 s4 (b3) (.slice none 0 0) [] (gu l4.tail)) (fun _ _=>True) (frame:=?JH) (fun x=>?wX) mixed (by kernel_rfl) (by kernel_rfl) (fun _ _ _ _ h _=>h) ?JI ?JJ ?wY
    case wX=>
     simp only [chain.aS,chain.fill,chain.bT,chain.bC,oV,oW,oZ,o5,o6,o7,o8,o_,pq];exact rfl
    case JI=>exact HB.out.extend (aB.refl _ _).drew
    case JJ=>
     iterate 8 (refine ak.cons (fun x vs u hF hm hb hd K' hK'=>?_) ?_;rotate_left)
     exact ak.nil
     ·have HF:=Z_ hF;clear hd hm hb hF;go_simp;exact hK'.out _ _ _ rfl trivial ⟨rfl,HF.out⟩
     ·have y0:x 23=.pointer (some ⟨N,3,none⟩):=(D_ hd 0 :);have hc:=hF.cell (by have:=hb 2 _ (by decide) rfl (by kernel_rfl);omega);have HF:=Z_ hF;clear hd hm hb hF;go_simp;exact hK'.out _ _ _ (by simp only [y0];rfl) trivial ⟨rfl,HF.out⟩
     ·have HF:=Z_ hF;clear hd hm hb hF;go_simp;exact hK'.out _ _ _ rfl trivial ⟨rfl,HF.out⟩
     ·have y0:x 25=.pointer (some ⟨S,0,none⟩):=(D_ hd 2 :);obtain rfl:=pR hm;have HF:=Z_ (show lD _ _ _ _ _ _ _ _ _ _ _ _ _ _ from hF);clear hd hm hb hF;have mM:=Z_ (qx HF.out.pr);go_simp;refine mM.out.mono ?_
      rintro e u2 hr;obtain⟨hC,⟨lb,hp,rfl⟩|⟨xn,ln,v,hp,rfl,hv,hP⟩⟩:=hr.cases (CW _)
      ·have HE:=Z_ (Out.aH HT.out hp)
       have HC:=Z_ (HF.out.aU.then hC);clear hr hp hC hK' mM;go_wp2_with fail
       exact⟨rfl,gU.fails HC.out HE.out⟩
      ·exact hK'.out _ _ _ (by simp only [y0];rfl) trivial (jb HF.out hC hp hv hP (bZ.vX hp))
     ·obtain⟨v0,rfl⟩:=rE hm
      have y0:x 26=v0:=((D_ hd 3) 26 (by kernel_rfl) :);have hcl:∃ a b c d,v0=.agg #[a,b,c,d]:=by obtain⟨xn,ln,_,_,_,hx⟩:=hF;obtain⟨a,b,c,d,h,_⟩:=b_ hx;exact⟨a,b,c,d,h⟩
      obtain⟨a0,b0,c0,d0,rfl⟩:=hcl;have HF:=Z_ hF;clear hd hm hb hF;go_simp;exact hK'.out _ _ _ (by simp only [y0];rfl) trivial (fZ HF.out rfl)
     ·obtain⟨v0,v1,rfl⟩:=yP hm
      have y0:x 24=(.slice none 0 0):=(D_ hd 1 :);have y1:x 27=v1:=((D_ hd 4) 27 (by kernel_rfl) :);have hF2:=hF;obtain⟨xn,ln,hT1,aY,hfew,hx,gg,rfl,hgb,hgr⟩:=hF2;obtain⟨us,hu1,ho,hu3⟩:=aY.grow.ex;have hlt:=aY.lt;obtain⟨mg,mD,hz0,hz1,hz2⟩:=bD gK;refine wp_append_lies _ _ _ 22 rfl (N+1) 24 mg (.agg #[.int .i64 0,.string ⟨#[]⟩,.int .i64 0,.slice none 0 0]) 4 56 Tryz.underlying22 mD hz0 hz1 hz2 rfl (by decide) (.slice none 0 0) [].length (us.flatMap fun u=>u.cells.toList) y0 ho ⟨gg,0,none⟩ 1 1 v0.cells.toList y1 (by rw [Array.length_toList,gY hx]) ?_ (by obtain⟨a,b,c,d,e,e2,p1,p2,p3,p4⟩:=b_ hx;rw [e2];intro q hq;simp at hq;rcases hq with rfl|rfl|rfl|rfl<;>assumption) (by decide) (by unfold maxLen;omega) (by omega) (by omega) u.heap.size rfl ?_
      ·intro j q hj;have e:(⟨gg,0,none⟩:Addr).add j=⟨gg,j,none⟩:=(by unfold Addr.add;split<;>simp_all);rw [e,hgb.cell];simpa using hj
      ·intro g9 c9 w9 kQ kM mF yK
       exact hK'.out _ _ _ rfl trivial (push_append hF hu1 hu3 kQ kM mF)
     ·have HF:=Z_ hF;clear hd hm hb hF;go_simp;exact hK'.out _ _ _ rfl trivial ⟨rfl,HF.out⟩
     ·obtain⟨v0,v1,v2,rfl⟩:=F_ hm
      have y0:x 29=.pointer (some ⟨N,3,none⟩):=(D_ hd 6 :);have y1:x 28=v2:=((D_ hd 5) 28 (by kernel_rfl) :);have hF2:=hF;obtain⟨xn,ln,hT1,aY,gg,cc,rfl⟩:=hF2;have hc:=aY.nd.cell 3;have hf:=aY.nd.frozen 3;have hl:=aY.lt;simp at hc
      have HF:=Z_ hF;clear hd hm hb hF aY hT1;go_simp;exact hK'.out _ _ undef (by simp only [y0,y1];rfl) trivial (f_ HF.out)
    case wY=>
     intro x vs w9 hl hF hk;obtain⟨v0,v1,v2,v3,rfl⟩:=Gf hl
     obtain⟨xn,ln,hT1,nT⟩:=hF;clear hk hl;replace HT:=Z_ (Out.aI HT.out hT1.out);replace HB:=Z_ nT;replace az:=Z_ HB.out.at;clear hT1 nT;have HN:=Z_ (dV (az.out.pr.alloc (.cells #[.string lN] 9)) w9.heap.size 1 lN ((aJ.made w9 #[.string lN] 9).cell 0));have h_:=(aB.refl (fun _=>False) w9).alloc (.cells #[.string lN] 9);replace HB:=Z_ (HB.out.extend h_);replace az:=Z_ HB.out.at;clear h_;go_wp2_with fail
     refine HN.out.mono ?_
     rintro e u9 hr;obtain⟨hC,⟨lb,hp,rfl⟩|⟨_,l9,_,hp,rfl,rfl,hP⟩⟩:=hr.cases (eX _ _)
     ·have HF:=Z_ (Out.aH HT.out hp)
      have HC:=Z_ (az.out.aU.then hC);clear hr hp hC;go_wp2_with fail
      exact⟨rfl,gU.fails HC.out HF.out⟩
     replace HT:=Z_ (Out.aI HT.out hp);replace HB:=Z_ (HB.out.call hC hP (by have:=bZ.bz hp;omega));replace az:=Z_ HB.out.at;clear hr hp hC hP HN;have HT0:=HT.out;clear HT;unfold nC at HT0;have HT:=Z_ HT0;clear HT0;have HN:=Z_ (dV (az.out.pr.alloc (.cells #[.string aW] 9)) u9.heap.size 1 aW ((aJ.made u9 #[.string aW] 9).cell 0));have h_:=(aB.refl (fun _=>False) u9).alloc (.cells #[.string aW] 9);replace HB:=Z_ (HB.out.extend h_);replace az:=Z_ HB.out.at;clear h_;go_wp2_with fail
     refine HN.out.mono ?_
     rintro e u10 hr;obtain⟨hC,⟨lb,hp,rfl⟩|⟨_,l10,_,hp,rfl,rfl,hP⟩⟩:=hr.cases (eX _ _)
     ·have HF:=Z_ (Out.aH HT.out hp)
      have HC:=Z_ (az.out.aU.then hC);clear hr hp hC;go_wp2_with fail
      exact⟨rfl,gU.fails HC.out HF.out⟩
     replace HT:=Z_ (Out.aI HT.out hp);replace HB:=Z_ (HB.out.call hC hP (by have:=bZ.bz hp;omega));replace az:=Z_ HB.out.at;clear hr hp hC hP HN;obtain⟨ra,rn,rc,hrow⟩:=HB.out.slice3
     first|subst hrow|clear hrow
     have c0:=HB.out.nd.cell 0;have c1:=HB.out.nd.cell 1;have c2:=HB.out.nd.cell 2;have c3:=HB.out.nd.cell 3;have r0:=HB.out.res.cell;have rf:=HB.out.res.frozen;have rl:=HB.out.res.lt;unfold cG at r0;simp at c0 c1 c2 c3
     go_wp2_with fail
     refine cO rfl rfl rfl ((((HB.out.res.set 0 _).set 1 _).set 2 _).set 3 _) Tryz.underlying24 rfl (by kernel_rfl) ?_
     exact HB.out.ret (by have:=qI.out;omega) (HT.out.symm) _ _ _ _
  | true=>
   replace hP:bW W u2 S E l.tail:=by simpa using hP
   have HT0:=HT.out;clear HT;simp only [↓reduceIte] at HT0;have HT:=Z_ HT0;clear HT0;replace az:=Z_ (az.out.call hC hP);clear hC hP HH iY;have jW:=az.out.lt;obtain⟨B,hB⟩:∃ B,u2.heap.size=B:=⟨_,rfl⟩;rw [hB] at jW;have HN:=Z_ (ih n (Nat.le_refl _) (.proc 0) _ _ az.out.pr HM.out rfl (by decide:(0:Int)≤0∧(0:Int)≤2) (by rw [HT.out];exact jO.out));go_wp2_with fail
   refine HN.out.mono ?_
   rintro e u10 hr;obtain⟨hC,⟨lb,hp,rfl⟩|⟨x10,l10,v10,hp,rfl,hv,hP⟩⟩:=hr.cases (by rw [HT.out];exact jO.out)
   ·have HF:=Z_ (HT.out.symm.trans hp)
    have HC:=Z_ (az.out.aU.then hC);clear hr hp hC;go_wp2_with fail
    exact⟨rfl,gU.fails HC.out HF.out⟩
   replace HT:=Z_ (HT.out.symm.trans hp);replace az:=Z_ (az.out.call hC hP);obtain⟨V3,V4,V5,V6,V7,V8,rfl⟩:=dF hv;have I0:=Z_ hv;have Nc:u2.heap.size≤u10.heap.size:=hC.size;clear hr hp hC hP hv HN;rw [hB] at I0;have r0:=az.out.res.cell;have rf:=az.out.res.frozen;have rl:=az.out.res.lt;unfold cG at r0;go_wp2_with fail
   refine cO rfl rfl rfl ((((az.out.res.set 0 _).set 1 _).set 2 _).set 3 _) Tryz.underlying24 rfl (by kernel_rfl) ?_
   exact g_ az.out (below B) (I0.out) (dX (by omega)) (fun i hi=>dX (by omega)) (HT.out)
 | true=>
  replace hP:bW W u1 S E l.tail:=by simpa using hP
  have HT0:=HT.out;clear HT;simp only [↓reduceIte] at HT0;have HT:=Z_ HT0;clear HT0;replace az:=Z_ (az.out.call hC hP);clear hC hP HH iY;have HH:=Z_ (eP az.out.pr qh);have iY:=Z_ (fun (h:eY l.tail [qh]=true)=>bZ.bg h);generalize eY l.tail [qh]=R at *;go_wp2_with fail
  refine HH.out.mono ?_
  rintro e u12 ⟨rfl,hC,hP⟩;cases R with
  | false=>
   replace hP:bW W u12 S E l.tail:=by simpa using hP
   have HT0:=HT.out;clear HT;simp only [Bool.false_eq_true,↓reduceIte] at HT0;have HT:=Z_ HT0;clear HT0;replace az:=Z_ (az.out.call hC hP);clear hC hP HH iY;have HN:=Z_ (cE az.out.pr);go_wp2_with fail
   refine HN.out.mono ?_
   rintro e u13 hr;obtain⟨hC,⟨lb,hp,rfl⟩|⟨b13,l13,v,hp,rfl,⟨rfl,hb0,hb1⟩,hP⟩⟩:=hr.cases (lM _)
   ·have HF:=Z_ (Out.aH HT.out hp)
    have HC:=Z_ (az.out.aU.then hC);clear hr hp hC;go_wp2_with fail
    exact⟨rfl,gU.fails HC.out HF.out⟩
   replace HT:=Z_ (Out.aI HT.out hp);replace az:=Z_ (az.out.call hC hP);have Ji:=Z_ (And.intro hb0 hb1);clear hr hp hC hP HN;clear hb0 hb1;have hw7:=tJ (n:=b13+2) (by have:=Ji.out;omega) (by have:=Ji.out;omega);obtain⟨hw8,Zo⟩:=hw7;have HN:=Z_ (name_any az.out.pr HM.out);go_wp2_with fail
   refine HN.out.mono ?_
   rintro e u14 hr;obtain⟨hC,⟨lb,hp,rfl⟩|⟨s14,Zh,v,hp,rfl,⟨rfl,hs⟩,hP⟩⟩:=hr.cases (kH _)
   ·have HF:=Z_ (Out.aH HT.out hp)
    have HC:=Z_ (az.out.aU.then hC);clear hr hp hC;go_wp2_with fail
    exact⟨rfl,gU.fails HC.out HF.out⟩
   replace HT:=Z_ (Out.aI HT.out hp);replace az:=Z_ (az.out.call hC hP);have qI:=Z_ hs;clear hr hp hC hP HN;clear hs;go_wp2_with fail
   refine(fG _ _ _ _ _ _ _).mono ?_
   rintro e u15 ⟨rfl,hE⟩;replace az:=Z_ (az.out.extend hE);clear hw8 Zo;have HB:=Z_ ((az.out.alloc (.cells #[.int .i64 (3),.string s14,.int .i64 (b13+2),.slice none 0 0] 24)).bld (aJ.made u15 _ _) az.out.lt);obtain⟨N,hN⟩:∃ N,u15.heap.size=N:=⟨_,rfl⟩;rw [hN] at HB;clear hE az;go_upto_region 8 with (fail)
   generalize u15.alloc (.cells #[.int .i64 (3),.string s14,.int .i64 (b13+2),.slice none 0 0] 24)=v0 at *;have az:=Z_ HB.out.at;have HH:=Z_ (eP az.out.pr ov);have iY:=Z_ (fun (h:eY Zh [ov]=true)=>bZ.bg h);generalize eY Zh [ov]=R at *;go_wp2_with fail
   refine HH.out.mono ?_
   rintro e u16 ⟨rfl,hC,hP⟩;cases R with
   | false=>
    replace hP:bW W u16 S E Zh:=by simpa using hP
    have HT0:=HT.out;clear HT;simp only [Bool.false_eq_true,↓reduceIte] at HT0;have HT:=Z_ HT0;clear HT0;replace HB:=Z_ (HB.out.call hC hP (Nat.le_refl _));replace az:=Z_ HB.out.at;clear hC hP HH iY;have HT0:=HT.out;clear HT;unfold nC at HT0;have HT:=Z_ HT0;clear HT0;have HN:=Z_ (dV (az.out.pr.alloc (.cells #[.string aW] 9)) u16.heap.size 1 aW ((aJ.made u16 #[.string aW] 9).cell 0));have h_:=(aB.refl (fun _=>False) u16).alloc (.cells #[.string aW] 9);replace HB:=Z_ (HB.out.extend h_);replace az:=Z_ HB.out.at;clear h_;go_wp2_with fail
    refine HN.out.mono ?_
    rintro e u17 hr;obtain⟨hC,⟨lb,hp,rfl⟩|⟨_,l17,_,hp,rfl,rfl,hP⟩⟩:=hr.cases (eX _ _)
    ·have HF:=Z_ (Out.aH HT.out hp)
     have HC:=Z_ (az.out.aU.then hC);clear hr hp hC;go_wp2_with fail
     exact⟨rfl,gU.fails HC.out HF.out⟩
    replace HT:=Z_ (Out.aI HT.out hp);replace HB:=Z_ (HB.out.call hC hP (by have:=bZ.bz hp;omega));replace az:=Z_ HB.out.at;clear hr hp hC hP HN;obtain⟨ra,rn,rc,hrow⟩:=HB.out.slice3
    first|subst hrow|clear hrow
    have c0:=HB.out.nd.cell 0;have c1:=HB.out.nd.cell 1;have c2:=HB.out.nd.cell 2;have c3:=HB.out.nd.cell 3;have r0:=HB.out.res.cell;have rf:=HB.out.res.frozen;have rl:=HB.out.res.lt;unfold cG at r0;simp at c0 c1 c2 c3
    go_wp2_with fail
    refine cO rfl rfl rfl ((((HB.out.res.set 0 _).set 1 _).set 2 _).set 3 _) Tryz.underlying24 rfl (by kernel_rfl) ?_
    exact HB.out.ret (by have:=qI.out;omega) (HT.out.symm) _ _ _ _
   | true=>
    replace hP:bW W u16 S E Zh.tail:=by simpa using hP
    have HT0:=HT.out;clear HT;simp only [↓reduceIte] at HT0;have HT:=Z_ HT0;clear HT0;replace HB:=Z_ (HB.out.call hC hP (by have:=iY.out rfl;omega));replace az:=Z_ HB.out.at;clear hC hP HH iY;go_upto_region 9 with (fail)
    refine aj [3,4,5,7] (fun i v _=>v=([.pointer (some ⟨N,3,none⟩),(.slice none 0 0),.pointer (some ⟨S,0,none⟩),undef,undef,undef,.pointer (some ⟨N,3,none⟩),undef]:List Value).getD i undef) (iM W w S E A N Zh.tail 3 s14 (b13+2) (.slice none 0 0) [] (gu Zh.tail)) (fun _ _=>True) (frame:=?Kv) (fun x=>?xj) mixed (by kernel_rfl) (by kernel_rfl) (fun _ _ _ _ h _=>h) ?Kw ?Ky ?xk
    case xj=>
     simp only [chain.aS,chain.fill,chain.bT,chain.bC,oV,oW,oZ,o5,o6,o7,o8,o_,pq];exact rfl
    case Kw=>exact HB.out.extend (aB.refl _ _).drew
    case Ky=>
     iterate 8 (refine ak.cons (fun x vs u hF hm hb hd K' hK'=>?_) ?_;rotate_left)
     exact ak.nil
     ·have HF:=Z_ hF;clear hd hm hb hF;go_simp;exact hK'.out _ _ _ rfl trivial ⟨rfl,HF.out⟩
     ·have y0:x 23=.pointer (some ⟨N,3,none⟩):=(D_ hd 0 :);have hc:=hF.cell (by have:=hb 2 _ (by decide) rfl (by kernel_rfl);omega);have HF:=Z_ hF;clear hd hm hb hF;go_simp;exact hK'.out _ _ _ (by simp only [y0];rfl) trivial ⟨rfl,HF.out⟩
     ·have HF:=Z_ hF;clear hd hm hb hF;go_simp;exact hK'.out _ _ _ rfl trivial ⟨rfl,HF.out⟩
     ·have y0:x 25=.pointer (some ⟨S,0,none⟩):=(D_ hd 2 :);obtain rfl:=pR hm;have HF:=Z_ (show lD _ _ _ _ _ _ _ _ _ _ _ _ _ _ from hF);clear hd hm hb hF;have mM:=Z_ (qx HF.out.pr);go_simp;refine mM.out.mono ?_
      rintro e u2 hr;obtain⟨hC,⟨lb,hp,rfl⟩|⟨xn,ln,v,hp,rfl,hv,hP⟩⟩:=hr.cases (CW _)
      ·have HE:=Z_ (Out.aH HT.out hp)
       have HC:=Z_ (HF.out.aU.then hC);clear hr hp hC hK' mM;go_wp2_with fail
       exact⟨rfl,gU.fails HC.out HE.out⟩
      ·exact hK'.out _ _ _ (by simp only [y0];rfl) trivial (jb HF.out hC hp hv hP (bZ.vX hp))
     ·obtain⟨v0,rfl⟩:=rE hm
      have y0:x 26=v0:=((D_ hd 3) 26 (by kernel_rfl) :);have hcl:∃ a b c d,v0=.agg #[a,b,c,d]:=by obtain⟨xn,ln,_,_,_,hx⟩:=hF;obtain⟨a,b,c,d,h,_⟩:=b_ hx;exact⟨a,b,c,d,h⟩
      obtain⟨a0,b0,c0,d0,rfl⟩:=hcl;have HF:=Z_ hF;clear hd hm hb hF;go_simp;exact hK'.out _ _ _ (by simp only [y0];rfl) trivial (fZ HF.out rfl)
     ·obtain⟨v0,v1,rfl⟩:=yP hm
      have y0:x 24=(.slice none 0 0):=(D_ hd 1 :);have y1:x 27=v1:=((D_ hd 4) 27 (by kernel_rfl) :);have hF2:=hF;obtain⟨xn,ln,hT1,aY,hfew,hx,gg,rfl,hgb,hgr⟩:=hF2;obtain⟨us,hu1,ho,hu3⟩:=aY.grow.ex;have hlt:=aY.lt;obtain⟨mg,mD,hz0,hz1,hz2⟩:=bD gK;refine wp_append_lies _ _ _ 22 rfl (N+1) 24 mg (.agg #[.int .i64 0,.string ⟨#[]⟩,.int .i64 0,.slice none 0 0]) 4 56 Tryz.underlying22 mD hz0 hz1 hz2 rfl (by decide) (.slice none 0 0) [].length (us.flatMap fun u=>u.cells.toList) y0 ho ⟨gg,0,none⟩ 1 1 v0.cells.toList y1 (by rw [Array.length_toList,gY hx]) ?_ (by obtain⟨a,b,c,d,e,e2,p1,p2,p3,p4⟩:=b_ hx;rw [e2];intro q hq;simp at hq;rcases hq with rfl|rfl|rfl|rfl<;>assumption) (by decide) (by unfold maxLen;omega) (by omega) (by omega) u.heap.size rfl ?_
      ·intro j q hj;have e:(⟨gg,0,none⟩:Addr).add j=⟨gg,j,none⟩:=(by unfold Addr.add;split<;>simp_all);rw [e,hgb.cell];simpa using hj
      ·intro g9 c9 w9 kQ kM mF yK
       exact hK'.out _ _ _ rfl trivial (push_append hF hu1 hu3 kQ kM mF)
     ·have HF:=Z_ hF;clear hd hm hb hF;go_simp;exact hK'.out _ _ _ rfl trivial ⟨rfl,HF.out⟩
     ·obtain⟨v0,v1,v2,rfl⟩:=F_ hm
      have y0:x 29=.pointer (some ⟨N,3,none⟩):=(D_ hd 6 :);have y1:x 28=v2:=((D_ hd 5) 28 (by kernel_rfl) :);have hF2:=hF;obtain⟨xn,ln,hT1,aY,gg,cc,rfl⟩:=hF2;have hc:=aY.nd.cell 3;have hf:=aY.nd.frozen 3;have hl:=aY.lt;simp at hc
      have HF:=Z_ hF;clear hd hm hb hF aY hT1;go_simp;exact hK'.out _ _ undef (by simp only [y0,y1];rfl) trivial (f_ HF.out)
    case xk=>
     intro x vs w9 hl hF hk;obtain⟨v0,v1,v2,v3,rfl⟩:=Gf hl
     obtain⟨xn,ln,hT1,nT⟩:=hF;clear hk hl;replace HT:=Z_ (Out.aI HT.out hT1.out);replace HB:=Z_ nT;replace az:=Z_ HB.out.at;clear hT1 nT;have HN:=Z_ (dV (az.out.pr.alloc (.cells #[.string lN] 9)) w9.heap.size 1 lN ((aJ.made w9 #[.string lN] 9).cell 0));have h_:=(aB.refl (fun _=>False) w9).alloc (.cells #[.string lN] 9);replace HB:=Z_ (HB.out.extend h_);replace az:=Z_ HB.out.at;clear h_;go_wp2_with fail
     refine HN.out.mono ?_
     rintro e u19 hr;obtain⟨hC,⟨lb,hp,rfl⟩|⟨_,l19,_,hp,rfl,rfl,hP⟩⟩:=hr.cases (eX _ _)
     ·have HF:=Z_ (Out.aH HT.out hp)
      have HC:=Z_ (az.out.aU.then hC);clear hr hp hC;go_wp2_with fail
      exact⟨rfl,gU.fails HC.out HF.out⟩
     replace HT:=Z_ (Out.aI HT.out hp);replace HB:=Z_ (HB.out.call hC hP (by have:=bZ.bz hp;omega));replace az:=Z_ HB.out.at;clear hr hp hC hP HN;have HT0:=HT.out;clear HT;unfold nC at HT0;have HT:=Z_ HT0;clear HT0;have HN:=Z_ (dV (az.out.pr.alloc (.cells #[.string aW] 9)) u19.heap.size 1 aW ((aJ.made u19 #[.string aW] 9).cell 0));have h_:=(aB.refl (fun _=>False) u19).alloc (.cells #[.string aW] 9);replace HB:=Z_ (HB.out.extend h_);replace az:=Z_ HB.out.at;clear h_;go_wp2_with fail
     refine HN.out.mono ?_
     rintro e u20 hr;obtain⟨hC,⟨lb,hp,rfl⟩|⟨_,l20,_,hp,rfl,rfl,hP⟩⟩:=hr.cases (eX _ _)
     ·have HF:=Z_ (Out.aH HT.out hp)
      have HC:=Z_ (az.out.aU.then hC);clear hr hp hC;go_wp2_with fail
      exact⟨rfl,gU.fails HC.out HF.out⟩
     replace HT:=Z_ (Out.aI HT.out hp);replace HB:=Z_ (HB.out.call hC hP (by have:=bZ.bz hp;omega));replace az:=Z_ HB.out.at;clear hr hp hC hP HN;obtain⟨ra,rn,rc,hrow⟩:=HB.out.slice3
     first|subst hrow|clear hrow
     have c0:=HB.out.nd.cell 0;have c1:=HB.out.nd.cell 1;have c2:=HB.out.nd.cell 2;have c3:=HB.out.nd.cell 3;have r0:=HB.out.res.cell;have rf:=HB.out.res.frozen;have rl:=HB.out.res.lt;unfold cG at r0;simp at c0 c1 c2 c3
     go_wp2_with fail
     refine cO rfl rfl rfl ((((HB.out.res.set 0 _).set 1 _).set 2 _).set 3 _) Tryz.underlying24 rfl (by kernel_rfl) ?_
     exact HB.out.ret (by have:=qI.out;omega) (HT.out.symm) _ _ _ _
  | true=>
   replace hP:bW W u12 S E l.tail.tail:=by simpa using hP
   have HT0:=HT.out;clear HT;simp only [↓reduceIte] at HT0;have HT:=Z_ HT0;clear HT0;replace az:=Z_ (az.out.call hC hP);clear hC hP HH iY;have jW:=az.out.lt;obtain⟨B,hB⟩:∃ B,u12.heap.size=B:=⟨_,rfl⟩;rw [hB] at jW;have HN:=Z_ (ih n (Nat.le_refl _) (.proc 2) _ _ az.out.pr HM.out rfl (by decide:(0:Int)≤2∧(2:Int)≤2) (by rw [HT.out];exact jO.out));go_wp2_with fail
   refine HN.out.mono ?_
   rintro e u20 hr;obtain⟨hC,⟨lb,hp,rfl⟩|⟨x20,l20,v20,hp,rfl,hv,hP⟩⟩:=hr.cases (by rw [HT.out];exact jO.out)
   ·have HF:=Z_ (HT.out.symm.trans hp)
    have HC:=Z_ (az.out.aU.then hC);clear hr hp hC;go_wp2_with fail
    exact⟨rfl,gU.fails HC.out HF.out⟩
   replace HT:=Z_ (HT.out.symm.trans hp);replace az:=Z_ (az.out.call hC hP);obtain⟨Zi,Zj,Zk,Zl,Zm,Zn,rfl⟩:=dF hv;have TN:=Z_ hv;have TP:u12.heap.size≤u20.heap.size:=hC.size;clear hr hp hC hP hv HN;rw [hB] at TN;have r0:=az.out.res.cell;have rf:=az.out.res.frozen;have rl:=az.out.res.lt;unfold cG at r0;go_wp2_with fail
   refine cO rfl rfl rfl ((((az.out.res.set 0 _).set 1 _).set 2 _).set 3 _) Tryz.underlying24 rfl (by kernel_rfl) ?_
   exact g_ az.out (below B) (TN.out) (dX (by omega)) (fun i hi=>dX (by omega)) (HT.out)
set_option maxRecDepth 100000 in
set_option maxHeartbeats 4000000 in
theorem Cj {n:Nat} (ih:∀ m,m≤n→Good m) {W w:World} {S E:Nat} {l:List Tk} {pub:Int} (h:bW W w S E l) (hm:dG W) (GN:0≤pub∧pub≤2) (hne:bn (n+1) (.proc pub) l≠.out) :
  Calls Tryz.prog 176 #[.pointer (some ⟨S,0,none⟩),.int .i64 pub] w (gU (VN w.heap.size) W w S E (bn (n+1) (.proc pub) l)):=by
 obtain⟨T,hT⟩:∃ T,bn (n+1) (.proc pub) l=T:=⟨_,rfl⟩;rw [hT] at hne ⊢;simp only [bn] at hT;have HT:=Z_ hT;have jO:=Z_ hne;have HM:=Z_ hm;have az:Hid (At W w (w.alloc (.cells #[.int .i64 0,.string ⟨#[]⟩,.int .i64 0,.slice none 0 0] 24)) S E w.heap.size l):=Z_ (At.start h);obtain⟨A,hA⟩:∃ A,w.heap.size=A:=⟨_,rfl⟩;rw [hA] at az;have VY:S<A:=by have:=h.lt;omega
 clear h hm hne hT;go_enter Tryz.func176,Tryz.ntmps176
 go_upto_region 1 with (fail)
 generalize w.alloc (.cells #[.int .i64 0,.string ⟨#[]⟩,.int .i64 0,.slice none 0 0] 24)=u0 at *;have I7:=Z_ GN;clear GN;have HN:=Z_ (name_any az.out.pr HM.out);go_wp2_with fail
 refine HN.out.mono ?_
 rintro e u1 hr;obtain⟨hC,⟨lb,hp,rfl⟩|⟨s1,l1,v,hp,rfl,⟨rfl,hs⟩,hP⟩⟩:=hr.cases (kH _)
 ·have HF:=Z_ (Out.aH HT.out hp)
  have HC:=Z_ (az.out.aU.then hC);clear hr hp hC;go_wp2_with fail
  exact⟨rfl,gU.fails HC.out HF.out⟩
 replace HT:=Z_ (Out.aI HT.out hp);replace az:=Z_ (az.out.call hC hP);have qI:=Z_ hs;clear hr hp hC hP HN;clear hs;generalize s1=s at *;go_wp2_with fail
 refine(fG _ _ _ _ _ _ _).mono ?_
 rintro e u2 ⟨rfl,hE⟩;replace az:=Z_ (az.out.extend hE);have HB:=Z_ ((az.out.alloc (.cells #[.int .i64 (4),.string s,.int .i64 (pub),.slice none 0 0] 24)).bld (aJ.made u2 _ _) az.out.lt);obtain⟨N,hN⟩:∃ N,u2.heap.size=N:=⟨_,rfl⟩;rw [hN] at HB;clear hE az;go_upto_region 2 with (fail)
 generalize u2.alloc (.cells #[.int .i64 (4),.string s,.int .i64 (pub),.slice none 0 0] 24)=v0 at *;have az:=Z_ HB.out.at;have HN:=Z_ (dV (az.out.pr.alloc (.cells #[.string dh] 9)) v0.heap.size 1 dh ((aJ.made v0 #[.string dh] 9).cell 0));have h_:=(aB.refl (fun _=>False) v0).alloc (.cells #[.string dh] 9);replace HB:=Z_ (HB.out.extend h_);replace az:=Z_ HB.out.at;clear h_;go_wp2_with fail
 refine HN.out.mono ?_
 rintro e u3 hr;obtain⟨hC,⟨lb,hp,rfl⟩|⟨_,l3,_,hp,rfl,rfl,hP⟩⟩:=hr.cases (eX _ _)
 ·have HF:=Z_ (Out.aH HT.out hp)
  have HC:=Z_ (az.out.aU.then hC);clear hr hp hC;go_wp2_with fail
  exact⟨rfl,gU.fails HC.out HF.out⟩
 replace HT:=Z_ (Out.aI HT.out hp);replace HB:=Z_ (HB.out.call hC hP (by have:=bZ.bz hp;omega));replace az:=Z_ HB.out.at;clear hr hp hC hP HN;go_upto_block 0 with (fail)
 go_cut [] (fun w'=>∃ (mm:Nat) (acc:List Nd) (row:Value) (l2:List Tk),mm≤n∧Hid ((fun (mm:Nat) (acc:List Nd) (l:List Tk)=>(dU aV l).bind fun _ l=>(dJ l).bind fun b l=>if eY l [iJ]=true then (dJ l.tail).bind fun g l=>(bn mm .block l).bind fun x l=>.got (.mk 4 s (pub+b+(4+4*g)) (acc ++ [x])) l else (bn mm .block l).bind fun x l=>.got (.mk 4 s (pub+b) (acc ++ [x])) l) mm acc l2=T)∧Hid (lD W w w' S E A N l2 4 s pub row row acc))
 case first=>
  go_wp2_with fail
  go_loopg [] n (fun k wr=>∃ l2 acc row,k≤n∧Hid (bn k (.params s pub acc) l2=T)∧Hid (lD W w wr S E A N l2 4 s pub row row acc))
  case atStart=>exact⟨l3,[],.slice none 0 0,Nat.le_refl _,HT,HB⟩
  clear HT HB az
  case round=>
   obtain⟨lr,acc,row,hkn,HT,HB⟩:=hrel;cases gk with
   | zero=>exact absurd HT.out.symm jO.out
   | succ m=>
    have HT0:=HT.out;clear HT;simp only [bn] at HT0;have HT:=Z_ HT0;clear HT0;have az:=Z_ HB.out.at;obtain⟨ra,rc,rfl⟩:=HB.out.slice
    have HH:=Z_ (y_ (az.out.pr.alloc (.cells #[.string aV] 9)) wr.heap.size [aV] 1 1 rfl (by decide) (fun j hj=>by
     obtain rfl:j=0:=by simpa using hj
     exact(aJ.made wr #[.string aV] 9).cell 0) (by simp))
    have h_:=(aB.refl (fun _=>False) wr).alloc (.cells #[.string aV] 9);replace HB:=Z_ (HB.out.extend h_);replace az:=Z_ HB.out.at;clear h_;generalize eY lr [aV]=R at *;go_wp2_with fail
    refine HH.out.mono ?_
    rintro e u4 ⟨rfl,hE⟩;replace HB:=Z_ (HB.out.extend hE);replace az:=Z_ HB.out.at;clear hE HH;cases R with
    | false=>
     have HT0:=HT.out;clear HT;simp only [Bool.false_eq_true,false_and,↓reduceIte] at HT0;have HT:=Z_ HT0;clear HT0;have HN:=Z_ (cE az.out.pr);go_wp2_with fail
     refine HN.out.mono ?_
     rintro e u5 hr;obtain⟨hC,⟨lb,hp,rfl⟩|⟨b5,l5,v,hp,rfl,⟨rfl,hb0,hb1⟩,hP⟩⟩:=hr.cases (lM _)
     ·have HF:=Z_ (Out.aH HT.out hp)
      have HC:=Z_ (az.out.aU.then hC);clear hr hp hC;go_wp2_with fail
      exact⟨rfl,gU.fails HC.out HF.out⟩
     replace HT:=Z_ (Out.aI HT.out hp);replace HB:=Z_ (HB.out.call hC hP (by have:=bZ.fQ hp;omega));replace az:=Z_ HB.out.at;have HBP:=Z_ (And.intro hb0 hb1);clear hr hp hC hP HN;clear hb0 hb1;go_upto_region 5 with (fail)
     refine aj [3,5,6,7,9] (fun i v _=>v=([.pointer (some ⟨N,3,none⟩),(.slice ra acc.length rc),.pointer (some ⟨S,0,none⟩),undef,.int .i64 b5,undef,undef,undef,.pointer (some ⟨N,3,none⟩),undef]:List Value).getD i undef) (zN W w S E A N l5 4 s pub (.slice ra acc.length rc) acc 5 b5) (fun _ _=>True) (frame:=?Kv) (fun x=>?xj) mixed (by kernel_rfl) (by kernel_rfl) (fun _ _ _ _ h _=>h) ?Kw ?Ky ?xk
     case xj=>
      simp only [chain.aS,chain.fill,chain.bT,chain.bC,oV,oW,oZ,o5,o6,o7,o8,o_,pq];exact rfl
     case Kw=>exact HB.out.extend (aB.refl _ _).drew
     case Ky=>
      iterate 10 (refine ak.cons (fun x vs u hF hm hb hd K' hK'=>?_) ?_;rotate_left)
      exact ak.nil
      ·have HF:=Z_ hF;clear hd hm hb hF;go_simp;exact hK'.out _ _ _ rfl trivial ⟨rfl,HF.out⟩
      ·have y0:x 26=.pointer (some ⟨N,3,none⟩):=(D_ hd 0 :);have hc:=hF.cell (by have:=hb 3 _ (by decide) rfl (by kernel_rfl);omega);have HF:=Z_ hF;clear hd hm hb hF;go_simp;exact hK'.out _ _ _ (by simp only [y0];rfl) trivial ⟨rfl,HF.out⟩
      ·have HF:=Z_ hF;clear hd hm hb hF;go_simp;exact hK'.out _ _ _ rfl trivial ⟨rfl,HF.out⟩
      ·have y0:x 28=.pointer (some ⟨S,0,none⟩):=(D_ hd 2 :);obtain rfl:=pR hm;have HF:=Z_ (show lD _ _ _ _ _ _ _ _ _ _ _ _ _ _ from hF);clear hd hm hb hF;have mM:=Z_ (name_any HF.out.pr HM.out);go_simp;refine mM.out.mono ?_
       rintro e u2 hr;obtain⟨hC,⟨lb,hp,rfl⟩|⟨sn,lx,v,hp,rfl,⟨rfl,hsz⟩,hP⟩⟩:=hr.cases (kH _)
       ·have HE:=Z_ (Out.aH HT.out hp)
        have HC:=Z_ (HF.out.aU.then hC);clear hr hp hC hK' mM;go_wp2_with fail
        exact⟨rfl,gU.fails HC.out HE.out⟩
       ·exact hK'.out _ _ _ (by simp only [y0];rfl) trivial (xA HF.out hC hp hsz hP)
      ·have HF:=Z_ hF;clear hd hm hb hF;go_simp;exact hK'.out _ _ _ rfl trivial ⟨rfl,HF.out⟩
      ·obtain⟨v0,rfl⟩:=rE hm
       have y0:x 29=v0:=((D_ hd 3) 29 (by kernel_rfl) :);have y1:x 30=.int .i64 b5:=(D_ hd 4 :);have hcl:∃ s,v0=.string s:=by obtain⟨s,ln,_,e,_⟩:=hF;exact⟨s,e⟩
       obtain⟨sn,rfl⟩:=hcl;have HF:=Z_ hF;clear hd hm hb hF;go_simp;refine(fG _ _ _ _ _ _ _).mono ?_
       rintro e u2 ⟨rfl,hE⟩;exact hK'.out _ _ _ (by simp only [y0,y1];rfl) trivial (xB HF.out hE)
      ·obtain⟨vz,v0,rfl⟩:∃ vz v0,vs=[vz,v0]:=by match vs,hm 2 (by kernel_rfl) with|[vz,v0],_=>exact⟨_,_,rfl⟩
       have y0:x 31=v0:=((D_ hd 5) 31 (by kernel_rfl) :);replace hF:iM W w S E A N l5 4 s pub (.slice ra acc.length rc) acc (qY 5 b5 l5) [v0] u:=hF;have hcl:∃ a b c d,v0=.agg #[a,b,c,d]:=by obtain⟨xn,ln,_,_,_,hx⟩:=hF;obtain⟨a,b,c,d,h,_⟩:=b_ hx;exact⟨a,b,c,d,h⟩
       obtain⟨a0,b0,c0,d0,rfl⟩:=hcl;have HF:=Z_ hF;clear hd hm hb hF;go_simp;exact hK'.out _ _ _ (by simp only [y0];rfl) trivial (fZ HF.out rfl)
      ·obtain⟨vz,v0,v1,rfl⟩:∃ vz v0 v1,vs=[vz,v0,v1]:=by match vs,hm 3 (by kernel_rfl) with|[vz,v0,v1],_=>exact⟨_,_,_,rfl⟩
       have y0:x 27=(.slice ra acc.length rc):=(D_ hd 1 :);have y1:x 32=v1:=((D_ hd 6) 32 (by kernel_rfl) :);replace hF:iM W w S E A N l5 4 s pub (.slice ra acc.length rc) acc (qY 5 b5 l5) [v0,v1] u:=hF;have hF2:=hF;obtain⟨xn,ln,hT1,aY,hfew,hx,gg,rfl,hgb,hgr⟩:=hF2;obtain⟨us,hu1,ho,hu3⟩:=aY.grow.ex;have hlt:=aY.lt;obtain⟨mg,mD,hz0,hz1,hz2⟩:=bD gK;refine wp_append_lies _ _ _ 22 rfl (N+1) 24 mg (.agg #[.int .i64 0,.string ⟨#[]⟩,.int .i64 0,.slice none 0 0]) 4 56 Tryz.underlying22 mD hz0 hz1 hz2 rfl (by decide) (.slice ra acc.length rc) acc.length (us.flatMap fun u=>u.cells.toList) y0 ho ⟨gg,0,none⟩ 1 1 v0.cells.toList y1 (by rw [Array.length_toList,gY hx]) ?_ (by obtain⟨a,b,c,d,e,e2,p1,p2,p3,p4⟩:=b_ hx;rw [e2];intro q hq;simp at hq;rcases hq with rfl|rfl|rfl|rfl<;>assumption) (by decide) (by unfold maxLen;omega) (by omega) (by omega) u.heap.size rfl ?_
       ·intro j q hj;have e:(⟨gg,0,none⟩:Addr).add j=⟨gg,j,none⟩:=(by unfold Addr.add;split<;>simp_all);rw [e,hgb.cell];simpa using hj
       ·intro g9 c9 w9 kQ kM mF yK
        exact hK'.out _ _ _ rfl trivial (push_append hF hu1 hu3 kQ kM mF)
      ·have HF:=Z_ hF;clear hd hm hb hF;go_simp;exact hK'.out _ _ _ rfl trivial ⟨rfl,HF.out⟩
      ·obtain⟨vz,v0,v1,v2,rfl⟩:∃ vz v0 v1 v2,vs=[vz,v0,v1,v2]:=by match vs,hm 4 (by kernel_rfl) with|[vz,v0,v1,v2],_=>exact⟨_,_,_,_,rfl⟩
       have y0:x 34=.pointer (some ⟨N,3,none⟩):=(D_ hd 8 :);have y1:x 33=v2:=((D_ hd 7) 33 (by kernel_rfl) :);replace hF:iM W w S E A N l5 4 s pub (.slice ra acc.length rc) acc (qY 5 b5 l5) [v0,v1,v2] u:=hF;have hF2:=hF;obtain⟨xn,ln,hT1,aY,gg,cc,rfl⟩:=hF2;have hc:=aY.nd.cell 3;have hf:=aY.nd.frozen 3;have hl:=aY.lt;simp at hc
       have HF:=Z_ hF;clear hd hm hb hF aY hT1;go_simp;exact hK'.out _ _ undef (by simp only [y0,y1];rfl) trivial (f_ (z:=undef) HF.out)
     case xk=>
      intro x vs w9 hl hF hk;obtain⟨vz,v0,v1,v2,v3,rfl⟩:∃ vz v0 v1 v2 v3,vs=[vz,v0,v1,v2,v3]:=by match vs,hl with|[vz,v0,v1,v2,v3],_=>exact⟨_,_,_,_,_,rfl⟩
      obtain⟨xn,ln,hT1,nT⟩:=hF;clear hk hl;have hT2:=hT1.out;unfold qY at hT2;obtain⟨sn,lz,hq1,hq2⟩:=bZ.ag hT2;injection hq2 with hq3 hq4
      subst hq3 hq4;replace HT:=Z_ (Out.aI HT.out hq1);replace HB:=Z_ nT;replace az:=Z_ HB.out.at;clear hT1 nT hT2 hq1;have HH:=Z_ (eP az.out.pr fL);have iY:=Z_ (fun (h:eY lz [fL]=true)=>bZ.bg h);generalize eY lz [fL]=R at *;go_wp2_with fail
      refine HH.out.mono ?_
      rintro e u6 ⟨rfl,hC,hP⟩;cases R with
      | false=>
       replace hP:bW W u6 S E lz:=by simpa using hP
       have HT0:=HT.out;clear HT;simp only [Bool.false_eq_true,↓reduceIte] at HT0;have HT:=Z_ HT0;clear HT0;replace HB:=Z_ (HB.out.call hC hP (Nat.le_refl _));replace az:=Z_ HB.out.at;clear hC hP HH iY;go_wp2_with fail
       go_meet
       exact⟨m,acc ++ [.mk 5 sn b5 []],v2,lz,by omega,HT,HB⟩
      | true=>
       replace hP:bW W u6 S E lz.tail:=by simpa using hP
       have HT0:=HT.out;clear HT;simp only [↓reduceIte] at HT0;have HT:=Z_ HT0;clear HT0;replace HB:=Z_ (HB.out.call hC hP (by have:=iY.out rfl;omega));replace az:=Z_ HB.out.at;clear hC hP HH iY;go_wp2_with fail
       go_roundg m
       case rel=>exact⟨lz.tail,acc ++ [.mk 5 sn b5 []],v2,by omega,HT,HB⟩
       case measure=>omega
    | true=>
     have c3:=HB.out.nd.cell 3;simp at c3
     by_cases hl0:acc.length=0
     ·have HT0:=HT.out
      clear HT;simp only [hl0,and_self,↓reduceIte] at HT0;have HT:=Z_ HT0;clear HT0;have HB2:Hid (∃ row,lD W w u4 S E A N lr 4 s pub row row acc):=Z_ ⟨_,HB.out⟩;clear HB az;rw [hl0] at c3;go_wp2_with fail
      go_meet
      obtain⟨row,HB⟩:=HB2.out;exact⟨m,acc,row,lr,by omega,HT,Z_ HB⟩
     ·have HT0:=HT.out
      clear HT;simp only [hl0,and_false,↓reduceIte] at HT0;have HT:=Z_ HT0;clear HT0;have hl1:0<acc.length:=by omega
      have HN:=Z_ (cE az.out.pr);go_wp2_with fail
      refine HN.out.mono ?_
      rintro e u6 hr;obtain⟨hC,⟨lb,hp,rfl⟩|⟨b6,l6,v,hp,rfl,⟨rfl,hb0,hb1⟩,hP⟩⟩:=hr.cases (lM _)
      ·have HF:=Z_ (Out.aH HT.out hp)
       have HC:=Z_ (az.out.aU.then hC);clear hr hp hC;go_wp2_with fail
       exact⟨rfl,gU.fails HC.out HF.out⟩
      replace HT:=Z_ (Out.aI HT.out hp);replace HB:=Z_ (HB.out.call hC hP (by have:=bZ.fQ hp;omega));replace az:=Z_ HB.out.at;have HBP:=Z_ (And.intro hb0 hb1);clear hr hp hC hP HN;clear hb0 hb1;go_upto_region 5 with (fail)
      refine aj [3,5,6,7,9] (fun i v _=>v=([.pointer (some ⟨N,3,none⟩),(.slice ra acc.length rc),.pointer (some ⟨S,0,none⟩),undef,.int .i64 b6,undef,undef,undef,.pointer (some ⟨N,3,none⟩),undef]:List Value).getD i undef) (zN W w S E A N l6 4 s pub (.slice ra acc.length rc) acc 5 b6) (fun _ _=>True) (frame:=?JH) (fun x=>?wX) mixed (by kernel_rfl) (by kernel_rfl) (fun _ _ _ _ h _=>h) ?JI ?JJ ?wY
      case wX=>
       simp only [chain.aS,chain.fill,chain.bT,chain.bC,oV,oW,oZ,o5,o6,o7,o8,o_,pq];exact rfl
      case JI=>exact HB.out.extend (aB.refl _ _).drew
      case JJ=>
       iterate 10 (refine ak.cons (fun x vs u hF hm hb hd K' hK'=>?_) ?_;rotate_left)
       exact ak.nil
       ·have HF:=Z_ hF;clear hd hm hb hF;go_simp;exact hK'.out _ _ _ rfl trivial ⟨rfl,HF.out⟩
       ·have y0:x 26=.pointer (some ⟨N,3,none⟩):=(D_ hd 0 :);have hc:=hF.cell (by have:=hb 3 _ (by decide) rfl (by kernel_rfl);omega);have HF:=Z_ hF;clear hd hm hb hF;go_simp;exact hK'.out _ _ _ (by simp only [y0];rfl) trivial ⟨rfl,HF.out⟩
       ·have HF:=Z_ hF;clear hd hm hb hF;go_simp;exact hK'.out _ _ _ rfl trivial ⟨rfl,HF.out⟩
       ·have y0:x 28=.pointer (some ⟨S,0,none⟩):=(D_ hd 2 :);obtain rfl:=pR hm;have HF:=Z_ (show lD _ _ _ _ _ _ _ _ _ _ _ _ _ _ from hF);clear hd hm hb hF;have mM:=Z_ (name_any HF.out.pr HM.out);go_simp;refine mM.out.mono ?_
        rintro e u2 hr;obtain⟨hC,⟨lb,hp,rfl⟩|⟨sn,lx,v,hp,rfl,⟨rfl,hsz⟩,hP⟩⟩:=hr.cases (kH _)
        ·have HE:=Z_ (Out.aH HT.out hp)
         have HC:=Z_ (HF.out.aU.then hC);clear hr hp hC hK' mM;go_wp2_with fail
         exact⟨rfl,gU.fails HC.out HE.out⟩
        ·exact hK'.out _ _ _ (by simp only [y0];rfl) trivial (xA HF.out hC hp hsz hP)
       ·have HF:=Z_ hF;clear hd hm hb hF;go_simp;exact hK'.out _ _ _ rfl trivial ⟨rfl,HF.out⟩
       ·obtain⟨v0,rfl⟩:=rE hm
        have y0:x 29=v0:=((D_ hd 3) 29 (by kernel_rfl) :);have y1:x 30=.int .i64 b6:=(D_ hd 4 :);have hcl:∃ s,v0=.string s:=by obtain⟨s,ln,_,e,_⟩:=hF;exact⟨s,e⟩
        obtain⟨sn,rfl⟩:=hcl;have HF:=Z_ hF;clear hd hm hb hF;go_simp;refine(fG _ _ _ _ _ _ _).mono ?_
        rintro e u2 ⟨rfl,hE⟩;exact hK'.out _ _ _ (by simp only [y0,y1];rfl) trivial (xB HF.out hE)
       ·obtain⟨vz,v0,rfl⟩:∃ vz v0,vs=[vz,v0]:=by match vs,hm 2 (by kernel_rfl) with|[vz,v0],_=>exact⟨_,_,rfl⟩
        have y0:x 31=v0:=((D_ hd 5) 31 (by kernel_rfl) :);replace hF:iM W w S E A N l6 4 s pub (.slice ra acc.length rc) acc (qY 5 b6 l6) [v0] u:=hF;have hcl:∃ a b c d,v0=.agg #[a,b,c,d]:=by obtain⟨xn,ln,_,_,_,hx⟩:=hF;obtain⟨a,b,c,d,h,_⟩:=b_ hx;exact⟨a,b,c,d,h⟩
        obtain⟨a0,b0,c0,d0,rfl⟩:=hcl;have HF:=Z_ hF;clear hd hm hb hF;go_simp;exact hK'.out _ _ _ (by simp only [y0];rfl) trivial (fZ HF.out rfl)
       ·obtain⟨vz,v0,v1,rfl⟩:∃ vz v0 v1,vs=[vz,v0,v1]:=by match vs,hm 3 (by kernel_rfl) with|[vz,v0,v1],_=>exact⟨_,_,_,rfl⟩
        have y0:x 27=(.slice ra acc.length rc):=(D_ hd 1 :);have y1:x 32=v1:=((D_ hd 6) 32 (by kernel_rfl) :);replace hF:iM W w S E A N l6 4 s pub (.slice ra acc.length rc) acc (qY 5 b6 l6) [v0,v1] u:=hF;have hF2:=hF;obtain⟨xn,ln,hT1,aY,hfew,hx,gg,rfl,hgb,hgr⟩:=hF2;obtain⟨us,hu1,ho,hu3⟩:=aY.grow.ex;have hlt:=aY.lt;obtain⟨mg,mD,hz0,hz1,hz2⟩:=bD gK;refine wp_append_lies _ _ _ 22 rfl (N+1) 24 mg (.agg #[.int .i64 0,.string ⟨#[]⟩,.int .i64 0,.slice none 0 0]) 4 56 Tryz.underlying22 mD hz0 hz1 hz2 rfl (by decide) (.slice ra acc.length rc) acc.length (us.flatMap fun u=>u.cells.toList) y0 ho ⟨gg,0,none⟩ 1 1 v0.cells.toList y1 (by rw [Array.length_toList,gY hx]) ?_ (by obtain⟨a,b,c,d,e,e2,p1,p2,p3,p4⟩:=b_ hx;rw [e2];intro q hq;simp at hq;rcases hq with rfl|rfl|rfl|rfl<;>assumption) (by decide) (by unfold maxLen;omega) (by omega) (by omega) u.heap.size rfl ?_
        ·intro j q hj;have e:(⟨gg,0,none⟩:Addr).add j=⟨gg,j,none⟩:=(by unfold Addr.add;split<;>simp_all);rw [e,hgb.cell];simpa using hj
        ·intro g9 c9 w9 kQ kM mF yK
         exact hK'.out _ _ _ rfl trivial (push_append hF hu1 hu3 kQ kM mF)
       ·have HF:=Z_ hF;clear hd hm hb hF;go_simp;exact hK'.out _ _ _ rfl trivial ⟨rfl,HF.out⟩
       ·obtain⟨vz,v0,v1,v2,rfl⟩:∃ vz v0 v1 v2,vs=[vz,v0,v1,v2]:=by match vs,hm 4 (by kernel_rfl) with|[vz,v0,v1,v2],_=>exact⟨_,_,_,_,rfl⟩
        have y0:x 34=.pointer (some ⟨N,3,none⟩):=(D_ hd 8 :);have y1:x 33=v2:=((D_ hd 7) 33 (by kernel_rfl) :);replace hF:iM W w S E A N l6 4 s pub (.slice ra acc.length rc) acc (qY 5 b6 l6) [v0,v1,v2] u:=hF;have hF2:=hF;obtain⟨xn,ln,hT1,aY,gg,cc,rfl⟩:=hF2;have hc:=aY.nd.cell 3;have hf:=aY.nd.frozen 3;have hl:=aY.lt;simp at hc
        have HF:=Z_ hF;clear hd hm hb hF aY hT1;go_simp;exact hK'.out _ _ undef (by simp only [y0,y1];rfl) trivial (f_ (z:=undef) HF.out)
      case wY=>
       intro x vs w9 hl hF hk;obtain⟨vz,v0,v1,v2,v3,rfl⟩:∃ vz v0 v1 v2 v3,vs=[vz,v0,v1,v2,v3]:=by match vs,hl with|[vz,v0,v1,v2,v3],_=>exact⟨_,_,_,_,_,rfl⟩
       obtain⟨xn,ln,hT1,nT⟩:=hF;clear hk hl;have hT2:=hT1.out;unfold qY at hT2;obtain⟨sn,lz,hq1,hq2⟩:=bZ.ag hT2;injection hq2 with hq3 hq4
       subst hq3 hq4;replace HT:=Z_ (Out.aI HT.out hq1);replace HB:=Z_ nT;replace az:=Z_ HB.out.at;clear hT1 nT hT2 hq1;have HH:=Z_ (eP az.out.pr fL);have iY:=Z_ (fun (h:eY lz [fL]=true)=>bZ.bg h);generalize eY lz [fL]=R at *;go_wp2_with fail
       refine HH.out.mono ?_
       rintro e u7 ⟨rfl,hC,hP⟩;cases R with
       | false=>
        replace hP:bW W u7 S E lz:=by simpa using hP
        have HT0:=HT.out;clear HT;simp only [Bool.false_eq_true,↓reduceIte] at HT0;have HT:=Z_ HT0;clear HT0;replace HB:=Z_ (HB.out.call hC hP (Nat.le_refl _));replace az:=Z_ HB.out.at;clear hC hP HH iY;go_wp2_with fail
        go_meet
        exact⟨m,acc ++ [.mk 5 sn b6 []],v2,lz,by omega,HT,HB⟩
       | true=>
        replace hP:bW W u7 S E lz.tail:=by simpa using hP
        have HT0:=HT.out;clear HT;simp only [↓reduceIte] at HT0;have HT:=Z_ HT0;clear HT0;replace HB:=Z_ (HB.out.call hC hP (by have:=iY.out rfl;omega));replace az:=Z_ HB.out.at;clear hC hP HH iY;go_wp2_with fail
        go_roundg m
        case rel=>exact⟨lz.tail,acc ++ [.mk 5 sn b6 []],v2,by omega,HT,HB⟩
        case measure=>omega
 case rest=>
  clear HT HB az;obtain⟨mm,acc,row,l2,hmm,HT,HB⟩:=hcut;have az:=Z_ HB.out.at;generalize wc=u7 at *;have HT0:=HT.out;clear HT;simp only at HT0;have HT:=Z_ HT0;clear HT0;have HN:=Z_ (dV (az.out.pr.alloc (.cells #[.string aV] 9)) u7.heap.size 1 aV ((aJ.made u7 #[.string aV] 9).cell 0));have h_:=(aB.refl (fun _=>False) u7).alloc (.cells #[.string aV] 9);replace HB:=Z_ (HB.out.extend h_);replace az:=Z_ HB.out.at;clear h_;go_wp2_with fail
  refine HN.out.mono ?_
  rintro e u6 hr;obtain⟨hC,⟨lb,hp,rfl⟩|⟨_,l6,_,hp,rfl,rfl,hP⟩⟩:=hr.cases (eX _ _)
  ·have HF:=Z_ (Out.aH HT.out hp)
   have HC:=Z_ (az.out.aU.then hC);clear hr hp hC;go_wp2_with fail
   exact⟨rfl,gU.fails HC.out HF.out⟩
  replace HT:=Z_ (Out.aI HT.out hp);replace HB:=Z_ (HB.out.call hC hP (by have:=bZ.bz hp;omega));replace az:=Z_ HB.out.at;clear hr hp hC hP HN;go_upto_region 8 with (fail)
  refine aj [3,4,6] (fun i v _=>v=([.pointer (some ⟨N,2,none⟩),.int .i64 (pub),.pointer (some ⟨S,0,none⟩),undef,undef,.pointer (some ⟨N,2,none⟩),undef]:List Value).getD i undef) (FZ W w S E A N l6 4 s (pub) row acc [fun b=>pub+b]) (fun _ _=>True) (frame:=?UJ) (fun x=>?zV) mixed (by kernel_rfl) (by kernel_rfl) (fun _ _ _ _ h _=>h) ?h0c ?UK ?EU
  case zV=>
   simp only [chain.aS,chain.fill,chain.bT,chain.bC,oV,oW,oZ,o5,o6,o7,o8,o_,pq];exact rfl
  case h0c=>exact HB.out.extend (aB.refl _ _).drew
  case UK=>
   iterate 7 (refine ak.cons (fun x vs u hF hm hb hd K' hK'=>?_) ?_;rotate_left)
   exact ak.nil
   ·have HF:=Z_ hF;clear hd hm hb hF;go_simp;exact hK'.out _ _ _ rfl trivial ⟨rfl,HF.out⟩
   ·have y0:x 41=.pointer (some ⟨N,2,none⟩):=(D_ hd 0 :);have hc:=hF.cell (by have:=hb 1 _ (by decide) rfl (by kernel_rfl);simp only [List.length_cons,List.length_nil];omega);have HF:=Z_ hF;clear hd hm hb hF;go_simp;exact hK'.out _ _ _ (by simp only [y0];rfl) trivial ⟨rfl,HF.out⟩
   ·have HF:=Z_ hF;clear hd hm hb hF;go_simp;exact hK'.out _ _ _ rfl trivial ⟨rfl,HF.out⟩
   ·have y0:x 43=.pointer (some ⟨S,0,none⟩):=(D_ hd 2 :);obtain rfl:=pR hm;have HF:=Z_ (show lD _ _ _ _ _ _ _ _ _ _ _ _ _ _ from hF);clear hd hm hb hF;have mM:=Z_ (cE HF.out.pr);go_simp;refine mM.out.mono ?_
    rintro e u2 hr;obtain⟨hC,⟨lb,hp,rfl⟩|⟨sn,lx,v,hp,rfl,⟨rfl,hb0,hb1⟩,hP⟩⟩:=hr.cases (lM _)
    ·have HE:=Z_ (Out.aH HT.out hp)
     have HC:=Z_ (HF.out.aU.then hC);clear hr hp hC hK' mM;go_wp2_with fail
     exact⟨rfl,gU.fails HC.out HE.out⟩
    ·exact hK'.out _ _ _ (by simp only [y0];rfl) trivial (Eo HF.out hC hp hb0 hb1 hP)
   ·obtain⟨vb,rfl⟩:∃ vb,vs=[vb]:=by match vs,hm 1 (by kernel_rfl) with|[vb],_=>exact⟨_,rfl⟩
    have hcl:∃ b,vb=.int .i64 b∧0≤b∧b≤1:=by obtain⟨b,l',_,e,h0,h1,hs,_⟩:=hF;exact⟨b,e,h0,h1⟩
    obtain⟨b,rfl,hb0,hb1⟩:=hcl;have y0:x 44=.int .i64 (b):=((D_ hd 3) 44 (by kernel_rfl) :);have y1:x 42=.int .i64 (pub):=(D_ hd 1 :);obtain⟨hw8,Zo⟩:=tJ (n:=pub+b) (by have:=I7.out;omega) (by have:=I7.out;omega);have HF:=Z_ hF;clear hd hm hb hF;go_simp;exact hK'.out _ _ _ (by simp only [y0,y1];rfl) trivial (by first|exact yE (r:=[]) HF.out (by simp) rfl)
   ·have HF:=Z_ hF;clear hd hm hb hF;go_simp;exact hK'.out _ _ _ rfl trivial ⟨rfl,HF.out⟩
   ·obtain⟨vb,v0,rfl⟩:∃ vb v0,vs=[vb,v0]:=by match vs,hm 2 (by kernel_rfl) with|[vb,v0],_=>exact⟨_,_,rfl⟩
    have hcl:∃ b,vb=.int .i64 b∧0≤b∧b≤1∧v0=.int .i64 (pub+b):=by obtain⟨b,l',_,e,h0,h1,hs,_⟩:=hF;exact⟨b,e,h0,h1,by have:=hs 0 (by simp) (by simp);simpa using this⟩
    obtain⟨b,rfl,hb0,hb1,rfl⟩:=hcl;have y0:x 46=.pointer (some ⟨N,2,none⟩):=(D_ hd 5 :);have y1:x 45=.int .i64 (pub+b):=((D_ hd 4) 45 (by kernel_rfl) :);have aY:∃ l',lD W w u S E A N l' 4 s (pub) row row acc:=by obtain⟨b',l',_,_,_,_,_,h⟩:=hF;exact⟨l',h⟩
    obtain⟨l',aY⟩:=aY;have hc:=aY.nd.cell 2;have hf:=aY.nd.frozen 2;have hl:=aY.lt;simp at hc
    clear aY;have HF:=Z_ hF;clear hd hm hb hF;go_simp;exact hK'.out _ _ undef (by simp only [y0,y1];rfl) trivial (Ep (r:=[.int .i64 (pub+b)]) (z:=undef) HF.out (by simp) rfl)
  case EU=>
   intro x vs w9 hl hF hk;obtain⟨vb,v0,vz,rfl⟩:∃ vb v0 vz,vs=[vb,v0,vz]:=by match vs,hl with|[vb,v0,vz],_=>exact⟨_,_,_,rfl⟩
   obtain⟨bc,KY,hT1,-,hb0,hb1,-,nT⟩:=hF;replace nT:lD W w w9 S E A N KY 4 s (pub+bc) row row acc:=nT;clear hk hl;replace HT:=Z_ (Out.aI HT.out hT1.out);have HBC:=Z_ (And.intro hb0 hb1);replace HB:=Z_ nT;replace az:=Z_ HB.out.at;clear hT1 nT hb0 hb1;have HH:=Z_ (eP az.out.pr iJ);have iY:=Z_ (fun (h:eY KY [iJ]=true)=>bZ.bg h);generalize eY KY [iJ]=R at *;go_wp2_with fail
   refine HH.out.mono ?_
   rintro e u7 ⟨rfl,hC,hP⟩;cases R with
   | false=>
    replace hP:bW W u7 S E KY:=by simpa using hP
    have HT0:=HT.out;clear HT;simp only [Bool.false_eq_true,↓reduceIte] at HT0;have HT:=Z_ HT0;clear HT0;replace HB:=Z_ (HB.out.call hC hP (Nat.le_refl _));replace az:=Z_ HB.out.at;clear hC hP HH iY;go_upto_region 11 with (fail)
    refine aj [3,4,5,7] (fun i v _=>v=([.pointer (some ⟨N,3,none⟩),row,.pointer (some ⟨S,0,none⟩),undef,undef,undef,.pointer (some ⟨N,3,none⟩),undef]:List Value).getD i undef) (iM W w S E A N KY 4 s (pub+bc) row acc (bn mm .block KY)) (fun _ _=>True) (frame:=?ad7) (fun x=>?Ri) mixed (by kernel_rfl) (by kernel_rfl) (fun _ _ _ _ h _=>h) ?h0d ?std ?find
    case Ri=>
     simp only [chain.aS,chain.fill,chain.bT,chain.bC,oV,oW,oZ,o5,o6,o7,o8,o_,pq];exact rfl
    case h0d=>exact HB.out.extend (aB.refl _ _).drew
    case std=>
     iterate 8 (refine ak.cons (fun x vs u hF hm hb hd K' hK'=>?_) ?_;rotate_left)
     exact ak.nil
     ·have HF:=Z_ hF;clear hd hm hb hF;go_simp;exact hK'.out _ _ _ rfl trivial ⟨rfl,HF.out⟩
     ·have y0:x 57=.pointer (some ⟨N,3,none⟩):=(D_ hd 0 :);have hc:=hF.cell (by have:=hb 2 _ (by decide) rfl (by kernel_rfl);omega);have HF:=Z_ hF;clear hd hm hb hF;go_simp;exact hK'.out _ _ _ (by simp only [y0];rfl) trivial ⟨rfl,HF.out⟩
     ·have HF:=Z_ hF;clear hd hm hb hF;go_simp;exact hK'.out _ _ _ rfl trivial ⟨rfl,HF.out⟩
     ·have y0:x 59=.pointer (some ⟨S,0,none⟩):=(D_ hd 2 :);obtain rfl:=pR hm;have HF:=Z_ (show lD _ _ _ _ _ _ _ _ _ _ _ _ _ _ from hF);clear hd hm hb hF;have mM:=Z_ (ih mm hmm .block _ _ HF.out.pr HM.out rfl trivial (Out.bI HT.out jO.out));go_simp;refine mM.out.mono ?_
      rintro e u2 hr;obtain⟨hC,⟨lb,hp,rfl⟩|⟨xn,ln,v,hp,rfl,hv,hP⟩⟩:=hr.cases (Out.bI HT.out jO.out)
      ·have HE:=Z_ (Out.aH HT.out hp)
       have HC:=Z_ (HF.out.aU.then hC);clear hr hp hC hK' mM;go_wp2_with fail
       exact⟨rfl,gU.fails HC.out HE.out⟩
      ·exact hK'.out _ _ _ (by simp only [y0];rfl) trivial (jb HF.out hC hp hv hP (bZ.fM _ _ _ _ _ hp))
     ·obtain⟨v0,rfl⟩:=rE hm
      have y0:x 60=v0:=((D_ hd 3) 60 (by kernel_rfl) :);have hcl:∃ a b c d,v0=.agg #[a,b,c,d]:=by obtain⟨xn,ln,_,_,_,hx⟩:=hF;obtain⟨a,b,c,d,h,_⟩:=b_ hx;exact⟨a,b,c,d,h⟩
      obtain⟨a0,b0,c0,d0,rfl⟩:=hcl;have HF:=Z_ hF;clear hd hm hb hF;go_simp;exact hK'.out _ _ _ (by simp only [y0];rfl) trivial (fZ HF.out rfl)
     ·obtain⟨v0,v1,rfl⟩:=yP hm
      have y0:x 58=row:=(D_ hd 1 :);have y1:x 61=v1:=((D_ hd 4) 61 (by kernel_rfl) :);have hF2:=hF;obtain⟨xn,ln,hT1,aY,hfew,hx,gg,rfl,hgb,hgr⟩:=hF2;obtain⟨us,hu1,ho,hu3⟩:=aY.grow.ex;have hlt:=aY.lt;obtain⟨mg,mD,hz0,hz1,hz2⟩:=bD gK;refine wp_append_lies _ _ _ 22 rfl (N+1) 24 mg (.agg #[.int .i64 0,.string ⟨#[]⟩,.int .i64 0,.slice none 0 0]) 4 56 Tryz.underlying22 mD hz0 hz1 hz2 rfl (by decide) row acc.length (us.flatMap fun u=>u.cells.toList) y0 ho ⟨gg,0,none⟩ 1 1 v0.cells.toList y1 (by rw [Array.length_toList,gY hx]) ?_ (by obtain⟨a,b,c,d,e,e2,p1,p2,p3,p4⟩:=b_ hx;rw [e2];intro q hq;simp at hq;rcases hq with rfl|rfl|rfl|rfl<;>assumption) (by decide) (by unfold maxLen;omega) (by omega) (by omega) u.heap.size rfl ?_
      ·intro j q hj;have e:(⟨gg,0,none⟩:Addr).add j=⟨gg,j,none⟩:=(by unfold Addr.add;split<;>simp_all);rw [e,hgb.cell];simpa using hj
      ·intro g9 c9 w9 kQ kM mF yK
       exact hK'.out _ _ _ rfl trivial (push_append hF hu1 hu3 kQ kM mF)
     ·have HF:=Z_ hF;clear hd hm hb hF;go_simp;exact hK'.out _ _ _ rfl trivial ⟨rfl,HF.out⟩
     ·obtain⟨v0,v1,v2,rfl⟩:=F_ hm
      have y0:x 63=.pointer (some ⟨N,3,none⟩):=(D_ hd 6 :);have y1:x 62=v2:=((D_ hd 5) 62 (by kernel_rfl) :);have hF2:=hF;obtain⟨xn,ln,hT1,aY,gg,cc,rfl⟩:=hF2;have hc:=aY.nd.cell 3;have hf:=aY.nd.frozen 3;have hl:=aY.lt;simp at hc
      have HF:=Z_ hF;clear hd hm hb hF aY hT1;go_simp;exact hK'.out _ _ undef (by simp only [y0,y1];rfl) trivial (f_ HF.out)
    case find=>
     intro x vs w9 hl hF hk;obtain⟨v0,v1,v2,v3,rfl⟩:=Gf hl
     obtain⟨xn,ln,hT1,nT⟩:=hF;clear hk hl;replace HT:=Z_ (Out.aI HT.out hT1.out);replace HB:=Z_ nT;replace az:=Z_ HB.out.at;clear hT1 nT;obtain⟨ra,rn,rc,hrow⟩:=HB.out.slice3
     first|subst hrow|clear hrow
     have c0:=HB.out.nd.cell 0;have c1:=HB.out.nd.cell 1;have c2:=HB.out.nd.cell 2;have c3:=HB.out.nd.cell 3;have r0:=HB.out.res.cell;have rf:=HB.out.res.frozen;have rl:=HB.out.res.lt;unfold cG at r0;simp at c0 c1 c2 c3
     go_wp2_with fail
     refine cO rfl rfl rfl ((((HB.out.res.set 0 _).set 1 _).set 2 _).set 3 _) Tryz.underlying24 rfl (by kernel_rfl) ?_
     exact HB.out.ret (by have:=qI.out;omega) (HT.out.symm) _ _ _ _
   | true=>
    replace hP:bW W u7 S E KY.tail:=by simpa using hP
    have HT0:=HT.out;clear HT;simp only [↓reduceIte] at HT0;have HT:=Z_ HT0;clear HT0;replace HB:=Z_ (HB.out.call hC hP (by have:=iY.out rfl;omega));replace az:=Z_ HB.out.at;clear hC hP HH iY;go_upto_region 10 with (fail)
    refine aj [3,4,5,6,8] (fun i v _=>v=([.pointer (some ⟨N,2,none⟩),.int .i64 (pub+bc),.pointer (some ⟨S,0,none⟩),undef,undef,undef,undef,.pointer (some ⟨N,2,none⟩),undef]:List Value).getD i undef) (FZ W w S E A N KY.tail 4 s (pub+bc) row acc [fun b=>4*b,fun b=>4+4*b,fun b=>pub+bc+(4+4*b)]) (fun _ _=>True) (frame:=?UN) (fun x=>?E8) mixed (by kernel_rfl) (by kernel_rfl) (fun _ _ _ _ h _=>h) ?UO ?UQ ?fine
    case E8=>
     simp only [chain.aS,chain.fill,chain.bT,chain.bC,oV,oW,oZ,o5,o6,o7,o8,o_,pq];exact rfl
    case UO=>exact HB.out.extend (aB.refl _ _).drew
    case UQ=>
     iterate 9 (refine ak.cons (fun x vs u hF hm hb hd K' hK'=>?_) ?_;rotate_left)
     exact ak.nil
     ·have HF:=Z_ hF;clear hd hm hb hF;go_simp;exact hK'.out _ _ _ rfl trivial ⟨rfl,HF.out⟩
     ·have y0:x 49=.pointer (some ⟨N,2,none⟩):=(D_ hd 0 :);have hc:=hF.cell (by have:=hb 3 _ (by decide) rfl (by kernel_rfl);simp only [List.length_cons,List.length_nil];omega);have HF:=Z_ hF;clear hd hm hb hF;go_simp;exact hK'.out _ _ _ (by simp only [y0];rfl) trivial ⟨rfl,HF.out⟩
     ·have HF:=Z_ hF;clear hd hm hb hF;go_simp;exact hK'.out _ _ _ rfl trivial ⟨rfl,HF.out⟩
     ·have y0:x 51=.pointer (some ⟨S,0,none⟩):=(D_ hd 2 :);obtain rfl:=pR hm;have HF:=Z_ (show lD _ _ _ _ _ _ _ _ _ _ _ _ _ _ from hF);clear hd hm hb hF;have mM:=Z_ (cE HF.out.pr);go_simp;refine mM.out.mono ?_
      rintro e u2 hr;obtain⟨hC,⟨lb,hp,rfl⟩|⟨sn,lx,v,hp,rfl,⟨rfl,hb0,hb1⟩,hP⟩⟩:=hr.cases (lM _)
      ·have HE:=Z_ (Out.aH HT.out hp)
       have HC:=Z_ (HF.out.aU.then hC);clear hr hp hC hK' mM;go_wp2_with fail
       exact⟨rfl,gU.fails HC.out HE.out⟩
      ·exact hK'.out _ _ _ (by simp only [y0];rfl) trivial (Eo HF.out hC hp hb0 hb1 hP)
     ·obtain⟨vb,rfl⟩:∃ vb,vs=[vb]:=by match vs,hm 1 (by kernel_rfl) with|[vb],_=>exact⟨_,rfl⟩
      have hcl:∃ b,vb=.int .i64 b∧0≤b∧b≤1:=by obtain⟨b,l',_,e,h0,h1,hs,_⟩:=hF;exact⟨b,e,h0,h1⟩
      obtain⟨b,rfl,hb0,hb1⟩:=hcl;have y0:x 52=.int .i64 (b):=((D_ hd 3) 52 (by kernel_rfl) :);obtain⟨hw8,Zo⟩:=tJ (n:=4*b) (by have:=I7.out;have:=HBC.out;omega) (by have:=I7.out;have:=HBC.out;omega);have HF:=Z_ hF;clear hd hm hb hF;go_simp;exact hK'.out _ _ _ (by simp only [y0];rfl) trivial (by first|exact yE (r:=[]) HF.out (by simp) rfl)
     ·obtain⟨vb,v0,rfl⟩:∃ vb v0,vs=[vb,v0]:=by match vs,hm 2 (by kernel_rfl) with|[vb,v0],_=>exact⟨_,_,rfl⟩
      have hcl:∃ b,vb=.int .i64 b∧0≤b∧b≤1∧v0=.int .i64 (4*b):=by obtain⟨b,l',_,e,h0,h1,hs,_⟩:=hF;exact⟨b,e,h0,h1,by have:=hs 0 (by simp) (by simp);simpa using this⟩
      obtain⟨b,rfl,hb0,hb1,rfl⟩:=hcl;have y0:x 53=.int .i64 (4*b):=((D_ hd 4) 53 (by kernel_rfl) :);obtain⟨hw8,Zo⟩:=tJ (n:=4+4*b) (by have:=I7.out;have:=HBC.out;omega) (by have:=I7.out;have:=HBC.out;omega);have HF:=Z_ hF;clear hd hm hb hF;go_simp;exact hK'.out _ _ _ (by simp only [y0];rfl) trivial (by first|exact yE (r:=[.int .i64 (4*b)]) HF.out (by simp) rfl)
     ·obtain⟨vb,v0,v1,rfl⟩:∃ vb v0 v1,vs=[vb,v0,v1]:=by match vs,hm 3 (by kernel_rfl) with|[vb,v0,v1],_=>exact⟨_,_,_,rfl⟩
      have hcl:∃ b,vb=.int .i64 b∧0≤b∧b≤1∧v0=.int .i64 (4*b)∧v1=.int .i64 (4+4*b):=by obtain⟨b,l',_,e,h0,h1,hs,_⟩:=hF;exact⟨b,e,h0,h1,by have:=hs 0 (by simp) (by simp);simpa using this,by have:=hs 1 (by simp) (by simp);simpa using this⟩
      obtain⟨b,rfl,hb0,hb1,rfl,rfl⟩:=hcl;have y0:x 54=.int .i64 (4+4*b):=((D_ hd 5) 54 (by kernel_rfl) :);have y1:x 50=.int .i64 (pub+bc):=(D_ hd 1 :);obtain⟨hw8,Zo⟩:=tJ (n:=pub+bc+(4+4*b)) (by have:=I7.out;have:=HBC.out;omega) (by have:=I7.out;have:=HBC.out;omega);have HF:=Z_ hF;clear hd hm hb hF;go_simp;exact hK'.out _ _ _ (by simp only [y0,y1];rfl) trivial (by first|exact yE (r:=[.int .i64 (4*b),.int .i64 (4+4*b)]) HF.out (by simp) rfl)
     ·have HF:=Z_ hF;clear hd hm hb hF;go_simp;exact hK'.out _ _ _ rfl trivial ⟨rfl,HF.out⟩
     ·obtain⟨vb,v0,v1,v2,rfl⟩:∃ vb v0 v1 v2,vs=[vb,v0,v1,v2]:=by match vs,hm 4 (by kernel_rfl) with|[vb,v0,v1,v2],_=>exact⟨_,_,_,_,rfl⟩
      have hcl:∃ b,vb=.int .i64 b∧0≤b∧b≤1∧v0=.int .i64 (4*b)∧v1=.int .i64 (4+4*b)∧v2=.int .i64 (pub+bc+(4+4*b)):=by obtain⟨b,l',_,e,h0,h1,hs,_⟩:=hF;exact⟨b,e,h0,h1,by have:=hs 0 (by simp) (by simp);simpa using this,by have:=hs 1 (by simp) (by simp);simpa using this,by have:=hs 2 (by simp) (by simp);simpa using this⟩
      obtain⟨b,rfl,hb0,hb1,rfl,rfl,rfl⟩:=hcl;have y0:x 56=.pointer (some ⟨N,2,none⟩):=(D_ hd 7 :);have y1:x 55=.int .i64 (pub+bc+(4+4*b)):=((D_ hd 6) 55 (by kernel_rfl) :);have aY:∃ l',lD W w u S E A N l' 4 s (pub+bc) row row acc:=by obtain⟨b',l',_,_,_,_,_,h⟩:=hF;exact⟨l',h⟩
      obtain⟨l',aY⟩:=aY;have hc:=aY.nd.cell 2;have hf:=aY.nd.frozen 2;have hl:=aY.lt;simp at hc
      clear aY;have HF:=Z_ hF;clear hd hm hb hF;go_simp;exact hK'.out _ _ undef (by simp only [y0,y1];rfl) trivial (Ep (r:=[.int .i64 (4*b),.int .i64 (4+4*b),.int .i64 (pub+bc+(4+4*b))]) (z:=undef) HF.out (by simp) rfl)
    case fine=>
     intro x vs w9 hl hF hk;obtain⟨vb,v0,v1,v2,vz,rfl⟩:∃ vb v0 v1 v2 vz,vs=[vb,v0,v1,v2,vz]:=by match vs,hl with|[vb,v0,v1,v2,vz],_=>exact⟨_,_,_,_,_,rfl⟩
     obtain⟨be,lne,hT1,-,hb0,hb1,-,nT⟩:=hF;replace nT:lD W w w9 S E A N lne 4 s (pub+bc+(4+4*be)) row row acc:=nT;clear hk hl;replace HT:=Z_ (Out.aI HT.out hT1.out);replace HB:=Z_ nT;replace az:=Z_ HB.out.at;clear hT1 nT hb0 hb1;go_upto_region 11 with (fail)
     refine aj [3,4,5,7] (fun i v _=>v=([.pointer (some ⟨N,3,none⟩),row,.pointer (some ⟨S,0,none⟩),undef,undef,undef,.pointer (some ⟨N,3,none⟩),undef]:List Value).getD i undef) (iM W w S E A N lne 4 s (pub+bc+(4+4*be)) row acc (bn mm .block lne)) (fun _ _=>True) (frame:=?aa7) (fun x=>?Ql) mixed (by kernel_rfl) (by kernel_rfl) (fun _ _ _ _ h _=>h) ?h0f ?stf ?Qm
     case Ql=>
      simp only [chain.aS,chain.fill,chain.bT,chain.bC,oV,oW,oZ,o5,o6,o7,o8,o_,pq];exact rfl
     case h0f=>exact HB.out.extend (aB.refl _ _).drew
     case stf=>
      iterate 8 (refine ak.cons (fun x vs u hF hm hb hd K' hK'=>?_) ?_;rotate_left)
      exact ak.nil
      ·have HF:=Z_ hF;clear hd hm hb hF;go_simp;exact hK'.out _ _ _ rfl trivial ⟨rfl,HF.out⟩
      ·have y0:x 57=.pointer (some ⟨N,3,none⟩):=(D_ hd 0 :);have hc:=hF.cell (by have:=hb 2 _ (by decide) rfl (by kernel_rfl);omega);have HF:=Z_ hF;clear hd hm hb hF;go_simp;exact hK'.out _ _ _ (by simp only [y0];rfl) trivial ⟨rfl,HF.out⟩
      ·have HF:=Z_ hF;clear hd hm hb hF;go_simp;exact hK'.out _ _ _ rfl trivial ⟨rfl,HF.out⟩
      ·have y0:x 59=.pointer (some ⟨S,0,none⟩):=(D_ hd 2 :);obtain rfl:=pR hm;have HF:=Z_ (show lD _ _ _ _ _ _ _ _ _ _ _ _ _ _ from hF);clear hd hm hb hF;have mM:=Z_ (ih mm hmm .block _ _ HF.out.pr HM.out rfl trivial (Out.bI HT.out jO.out));go_simp;refine mM.out.mono ?_
       rintro e u2 hr;obtain⟨hC,⟨lb,hp,rfl⟩|⟨xn,ln,v,hp,rfl,hv,hP⟩⟩:=hr.cases (Out.bI HT.out jO.out)
       ·have HE:=Z_ (Out.aH HT.out hp)
        have HC:=Z_ (HF.out.aU.then hC);clear hr hp hC hK' mM;go_wp2_with fail
        exact⟨rfl,gU.fails HC.out HE.out⟩
       ·exact hK'.out _ _ _ (by simp only [y0];rfl) trivial (jb HF.out hC hp hv hP (bZ.fM _ _ _ _ _ hp))
      ·obtain⟨v0,rfl⟩:=rE hm
       have y0:x 60=v0:=((D_ hd 3) 60 (by kernel_rfl) :);have hcl:∃ a b c d,v0=.agg #[a,b,c,d]:=by obtain⟨xn,ln,_,_,_,hx⟩:=hF;obtain⟨a,b,c,d,h,_⟩:=b_ hx;exact⟨a,b,c,d,h⟩
       obtain⟨a0,b0,c0,d0,rfl⟩:=hcl;have HF:=Z_ hF;clear hd hm hb hF;go_simp;exact hK'.out _ _ _ (by simp only [y0];rfl) trivial (fZ HF.out rfl)
      ·obtain⟨v0,v1,rfl⟩:=yP hm
       have y0:x 58=row:=(D_ hd 1 :);have y1:x 61=v1:=((D_ hd 4) 61 (by kernel_rfl) :);have hF2:=hF;obtain⟨xn,ln,hT1,aY,hfew,hx,gg,rfl,hgb,hgr⟩:=hF2;obtain⟨us,hu1,ho,hu3⟩:=aY.grow.ex;have hlt:=aY.lt;obtain⟨mg,mD,hz0,hz1,hz2⟩:=bD gK;refine wp_append_lies _ _ _ 22 rfl (N+1) 24 mg (.agg #[.int .i64 0,.string ⟨#[]⟩,.int .i64 0,.slice none 0 0]) 4 56 Tryz.underlying22 mD hz0 hz1 hz2 rfl (by decide) row acc.length (us.flatMap fun u=>u.cells.toList) y0 ho ⟨gg,0,none⟩ 1 1 v0.cells.toList y1 (by rw [Array.length_toList,gY hx]) ?_ (by obtain⟨a,b,c,d,e,e2,p1,p2,p3,p4⟩:=b_ hx;rw [e2];intro q hq;simp at hq;rcases hq with rfl|rfl|rfl|rfl<;>assumption) (by decide) (by unfold maxLen;omega) (by omega) (by omega) u.heap.size rfl ?_
       ·intro j q hj;have e:(⟨gg,0,none⟩:Addr).add j=⟨gg,j,none⟩:=(by unfold Addr.add;split<;>simp_all);rw [e,hgb.cell];simpa using hj
       ·intro g9 c9 w9 kQ kM mF yK
        exact hK'.out _ _ _ rfl trivial (push_append hF hu1 hu3 kQ kM mF)
      ·have HF:=Z_ hF;clear hd hm hb hF;go_simp;exact hK'.out _ _ _ rfl trivial ⟨rfl,HF.out⟩
      ·obtain⟨v0,v1,v2,rfl⟩:=F_ hm
       have y0:x 63=.pointer (some ⟨N,3,none⟩):=(D_ hd 6 :);have y1:x 62=v2:=((D_ hd 5) 62 (by kernel_rfl) :);have hF2:=hF;obtain⟨xn,ln,hT1,aY,gg,cc,rfl⟩:=hF2;have hc:=aY.nd.cell 3;have hf:=aY.nd.frozen 3;have hl:=aY.lt;simp at hc
       have HF:=Z_ hF;clear hd hm hb hF aY hT1;go_simp;exact hK'.out _ _ undef (by simp only [y0,y1];rfl) trivial (f_ HF.out)
     case Qm=>
      intro x vs w9 hl hF hk;obtain⟨v0,v1,v2,v3,rfl⟩:=Gf hl
      obtain⟨xn,ln,hT1,nT⟩:=hF;clear hk hl;replace HT:=Z_ (Out.aI HT.out hT1.out);replace HB:=Z_ nT;replace az:=Z_ HB.out.at;clear hT1 nT;obtain⟨ra,rn,rc,hrow⟩:=HB.out.slice3
      first|subst hrow|clear hrow
      have c0:=HB.out.nd.cell 0;have c1:=HB.out.nd.cell 1;have c2:=HB.out.nd.cell 2;have c3:=HB.out.nd.cell 3;have r0:=HB.out.res.cell;have rf:=HB.out.res.frozen;have rl:=HB.out.res.lt;unfold cG at r0;simp at c0 c1 c2 c3
      go_wp2_with fail
      refine cO rfl rfl rfl ((((HB.out.res.set 0 _).set 1 _).set 2 _).set 3 _) Tryz.underlying24 rfl (by kernel_rfl) ?_
      exact HB.out.ret (by have:=qI.out;omega) (HT.out.symm) _ _ _ _
end bH
end Go.Proofs.YtpcihajmcejliacGreatDoor
