/- The walk of the program's parser: calls. The walk of the program's parser: what binds. -/
import Derived.Deep.CutBlock
import Derived.Deep.DeepCutAuto
import Derived.Test.YtpcihajmcejliacGreatDoorSyn3
namespace Go.Proofs.YtpcihajmcejliacGreatDoor
open Go.RowKit
namespace bH
set_option maxRecDepth 100000 in
set_option maxHeartbeats 4000000 in
theorem AK {n:Nat} (ih:∀ m,m≤n→Good m) {W w:World} {S E:Nat} {l:List Tk} {s:ByteArray} (h:bW W w S E l) (hm:dG W) (hs:s.size≤7000) (hne:bn (n+1) (.call s) l≠.out) :
  Calls Tryz.prog 332 #[.pointer (some ⟨S,0,none⟩),.string s] w (gU (VN w.heap.size) W w S E (bn (n+1) (.call s) l)):=by
 obtain⟨T,hT⟩:∃ T,bn (n+1) (.call s) l=T:=⟨_,rfl⟩;rw [hT] at hne ⊢;simp only [bn] at hT;have HT:=Z_ hT;have jO:=Z_ hne;have HM:=Z_ hm;have az:Hid (At W w (w.alloc (.cells #[.int .i64 0,.string ⟨#[]⟩,.int .i64 0,.slice none 0 0] 24)) S E w.heap.size l):=Z_ (At.start h);obtain⟨A,hA⟩:∃ A,w.heap.size=A:=⟨_,rfl⟩;rw [hA] at az;have VY:S<A:=by have:=h.lt;omega
 clear h hm hne hT;go_enter Tryz.func332,Tryz.ntmps332
 go_upto_region 1 with (fail)
 generalize w.alloc (.cells #[.int .i64 0,.string ⟨#[]⟩,.int .i64 0,.slice none 0 0] 24)=u0 at *;have HN:=Z_ (dV (az.out.pr.alloc (.cells #[.string dh] 9)) u0.heap.size 1 dh ((aJ.made u0 #[.string dh] 9).cell 0));have h_:=(aB.refl (fun _=>False) u0).alloc (.cells #[.string dh] 9);replace az:=Z_ (az.out.extend h_);clear h_;go_wp2_with fail
 refine HN.out.mono ?_
 rintro e u1 hr;obtain⟨hC,⟨lb,hp,rfl⟩|⟨_,l1,_,hp,rfl,rfl,hP⟩⟩:=hr.cases (eX _ _)
 ·have HF:=Z_ (Out.aH HT.out hp)
  have HC:=Z_ (az.out.aU.then hC);clear hr hp hC;go_wp2_with fail
  exact⟨rfl,gU.fails HC.out HF.out⟩
 replace HT:=Z_ (Out.aI HT.out hp);replace az:=Z_ (az.out.call hC hP);clear hr hp hC hP HN;go_wp2_with fail
 refine(fG _ _ _ _ _ _ _).mono ?_
 rintro e u2 ⟨rfl,hE⟩;replace az:=Z_ (az.out.extend hE);have HB:=Z_ ((az.out.alloc (.cells #[.int .i64 18,.string s,.int .i64 0,.slice none 0 0] 24)).bld (aJ.made u2 _ _) az.out.lt);obtain⟨N,hN⟩:∃ N,u2.heap.size=N:=⟨_,rfl⟩;rw [hN] at HB;clear hE az;go_upto_block 0 with (fail)
 generalize u2.alloc (.cells #[.int .i64 18,.string s,.int .i64 0,.slice none 0 0] 24)=v0 at *;go_cut [] (fun w'=>∃ (acc:List Nd) (row:Value) (l2:List Tk),Hid ((dU aV l2).bind (fun _ l=>.got (.mk 18 s 0 acc) l)=T)∧Hid (lD W w w' S E A N l2 18 s 0 row row acc))
 case first=>
  go_wp2_with fail
  go_loopg [] n (fun k wr=>∃ l2 acc row,k≤n∧Hid (bn k (.args s acc) l2=T)∧Hid (lD W w wr S E A N l2 18 s 0 row row acc))
  case atStart=>exact⟨l1,[],.slice none 0 0,Nat.le_refl _,HT,HB⟩
  clear HT HB
  case round=>
   obtain⟨lr,acc,row,hkn,HT,HB⟩:=hrel;cases gk with
   | zero=>exact absurd HT.out.symm jO.out
   | succ m=>
    have HT0:=HT.out;clear HT;simp only [bn] at HT0;have HT:=Z_ HT0;clear HT0;have az:=Z_ HB.out.at;obtain⟨ra,rc,rfl⟩:=HB.out.slice
    have HH:=Z_ (y_ (az.out.pr.alloc (.cells #[.string aV] 9)) wr.heap.size [aV] 1 1 rfl (by decide) (fun j hj=>by
     obtain rfl:j=0:=by simpa using hj
     exact(aJ.made wr #[.string aV] 9).cell 0) (by simp))
    have h_:=(aB.refl (fun _=>False) wr).alloc (.cells #[.string aV] 9);replace HB:=Z_ (HB.out.extend h_);replace az:=Z_ HB.out.at;clear h_;generalize eY lr [aV]=R at *;go_wp2_with fail
    refine HH.out.mono ?_
    rintro e u3 ⟨rfl,hE⟩;replace HB:=Z_ (HB.out.extend hE);replace az:=Z_ HB.out.at;clear hE HH;cases R with
    | false=>
     have HT0:=HT.out;clear HT;simp only [Bool.false_eq_true,false_and,↓reduceIte] at HT0;have HT:=Z_ HT0;clear HT0;go_upto_region 4 with (fail)
     refine aj [3,4,5,7] (fun i v _=>v=([.pointer (some ⟨N,3,none⟩),(.slice ra acc.length rc),.pointer (some ⟨S,0,none⟩),undef,undef,undef,.pointer (some ⟨N,3,none⟩),undef]:List Value).getD i undef) (iM W w S E A N lr 18 s 0 (.slice ra acc.length rc) acc (bn m .expr lr)) (fun _ _=>True) (frame:=?Kv) (fun x=>?xj) mixed (by kernel_rfl) (by kernel_rfl) (fun _ _ _ _ h _=>h) ?Kw ?Ky ?xk
     case xj=>
      simp only [chain.aS,chain.fill,chain.bT,chain.bC,oV,oW,oZ,o5,o6,o7,o8,o_,pq];exact rfl
     case Kw=>exact HB.out.extend (aB.refl _ _).drew
     case Ky=>
      iterate 8 (refine ak.cons (fun x vs u hF hm hb hd K' hK'=>?_) ?_;rotate_left)
      exact ak.nil
      ·have HF:=Z_ hF;clear hd hm hb hF;go_simp;exact hK'.out _ _ _ rfl trivial ⟨rfl,HF.out⟩
      ·have y0:x 21=.pointer (some ⟨N,3,none⟩):=(D_ hd 0 :);have hc:=hF.cell (by have:=hb 2 _ (by decide) rfl (by kernel_rfl);omega);have HF:=Z_ hF;clear hd hm hb hF;go_simp;exact hK'.out _ _ _ (by simp only [y0];rfl) trivial ⟨rfl,HF.out⟩
      ·have HF:=Z_ hF;clear hd hm hb hF;go_simp;exact hK'.out _ _ _ rfl trivial ⟨rfl,HF.out⟩
      ·have y0:x 23=.pointer (some ⟨S,0,none⟩):=(D_ hd 2 :);obtain rfl:=pR hm;have HF:=Z_ (show lD _ _ _ _ _ _ _ _ _ _ _ _ _ _ from hF);clear hd hm hb hF;have mM:=Z_ (ih m (by omega) .expr _ _ HF.out.pr HM.out rfl trivial (Out.bI HT.out jO.out));go_simp;refine mM.out.mono ?_
       rintro e u2 hr;obtain⟨hC,⟨lb,hp,rfl⟩|⟨xn,ln,v,hp,rfl,hv,hP⟩⟩:=hr.cases (Out.bI HT.out jO.out)
       ·have HE:=Z_ (Out.aH HT.out hp)
        have HC:=Z_ (HF.out.aU.then hC);clear hr hp hC hK' mM;go_wp2_with fail
        exact⟨rfl,gU.fails HC.out HE.out⟩
       ·exact hK'.out _ _ _ (by simp only [y0];rfl) trivial (jb HF.out hC hp hv hP (bZ.fM _ _ _ _ _ hp))
      ·obtain⟨v0,rfl⟩:=rE hm
       have y0:x 24=v0:=((D_ hd 3) 24 (by kernel_rfl) :);have hcl:∃ a b c d,v0=.agg #[a,b,c,d]:=by obtain⟨xn,ln,_,_,_,hx⟩:=hF;obtain⟨a,b,c,d,h,_⟩:=b_ hx;exact⟨a,b,c,d,h⟩
       obtain⟨a0,b0,c0,d0,rfl⟩:=hcl;have HF:=Z_ hF;clear hd hm hb hF;go_simp;exact hK'.out _ _ _ (by simp only [y0];rfl) trivial (fZ HF.out rfl)
      ·obtain⟨v0,v1,rfl⟩:=yP hm
       have y0:x 22=(.slice ra acc.length rc):=(D_ hd 1 :);have y1:x 25=v1:=((D_ hd 4) 25 (by kernel_rfl) :);have hF2:=hF;obtain⟨xn,ln,hT1,aY,hfew,hx,gg,rfl,hgb,hgr⟩:=hF2;obtain⟨us,hu1,ho,hu3⟩:=aY.grow.ex;have hlt:=aY.lt;obtain⟨mg,mD,hz0,hz1,hz2⟩:=bD gK;refine wp_append_lies _ _ _ 22 rfl (N+1) 24 mg (.agg #[.int .i64 0,.string ⟨#[]⟩,.int .i64 0,.slice none 0 0]) 4 56 Tryz.underlying22 mD hz0 hz1 hz2 rfl (by decide) (.slice ra acc.length rc) acc.length (us.flatMap fun u=>u.cells.toList) y0 ho ⟨gg,0,none⟩ 1 1 v0.cells.toList y1 (by rw [Array.length_toList,gY hx]) ?_ (by obtain⟨a,b,c,d,e,e2,p1,p2,p3,p4⟩:=b_ hx;rw [e2];intro q hq;simp at hq;rcases hq with rfl|rfl|rfl|rfl<;>assumption) (by decide) (by unfold maxLen;omega) (by omega) (by omega) u.heap.size rfl ?_
       ·intro j q hj;have e:(⟨gg,0,none⟩:Addr).add j=⟨gg,j,none⟩:=(by unfold Addr.add;split<;>simp_all);rw [e,hgb.cell];simpa using hj
       ·intro g9 c9 w9 kQ kM mF yK
        exact hK'.out _ _ _ rfl trivial (push_append hF hu1 hu3 kQ kM mF)
      ·have HF:=Z_ hF;clear hd hm hb hF;go_simp;exact hK'.out _ _ _ rfl trivial ⟨rfl,HF.out⟩
      ·obtain⟨v0,v1,v2,rfl⟩:=F_ hm
       have y0:x 27=.pointer (some ⟨N,3,none⟩):=(D_ hd 6 :);have y1:x 26=v2:=((D_ hd 5) 26 (by kernel_rfl) :);have hF2:=hF;obtain⟨xn,ln,hT1,aY,gg,cc,rfl⟩:=hF2;have hc:=aY.nd.cell 3;have hf:=aY.nd.frozen 3;have hl:=aY.lt;simp at hc
       have HF:=Z_ hF;clear hd hm hb hF aY hT1;go_simp;exact hK'.out _ _ undef (by simp only [y0,y1];rfl) trivial (f_ HF.out)
     case xk=>
      intro x vs w9 hl hF hk;obtain⟨v0,v1,v2,v3,rfl⟩:=Gf hl
      obtain⟨xn,ln,hT1,nT⟩:=hF;clear hk hl;replace HT:=Z_ (Out.aI HT.out hT1.out);replace HB:=Z_ nT;replace az:=Z_ HB.out.at;clear hT1 nT;have HH:=Z_ (eP az.out.pr fL);have iY:=Z_ (fun (h:eY ln [fL]=true)=>bZ.bg h);generalize eY ln [fL]=R at *;go_wp2_with fail
      refine HH.out.mono ?_
      rintro e u4 ⟨rfl,hC,hP⟩;cases R with
      | false=>
       replace hP:bW W u4 S E ln:=by simpa using hP
       have HT0:=HT.out;clear HT;simp only [Bool.false_eq_true,↓reduceIte] at HT0;have HT:=Z_ HT0;clear HT0;replace HB:=Z_ (HB.out.call hC hP (Nat.le_refl _));replace az:=Z_ HB.out.at;clear hC hP HH iY;go_wp2_with fail
       go_meet
       exact⟨acc ++ [xn],v2,ln,HT,HB⟩
      | true=>
       replace hP:bW W u4 S E ln.tail:=by simpa using hP
       have HT0:=HT.out;clear HT;simp only [↓reduceIte] at HT0;have HT:=Z_ HT0;clear HT0;replace HB:=Z_ (HB.out.call hC hP (by have:=iY.out rfl;omega));replace az:=Z_ HB.out.at;clear hC hP HH iY;go_wp2_with fail
       go_roundg m
       case rel=>exact⟨ln.tail,acc ++ [xn],v2,by omega,HT,HB⟩
       case measure=>omega
    | true=>
     have c3:=HB.out.nd.cell 3;simp at c3
     by_cases hl0:acc.length=0
     ·have HT0:=HT.out
      clear HT;simp only [hl0,and_self,↓reduceIte] at HT0;have HT:=Z_ HT0;clear HT0;have HB2:Hid (∃ row,lD W w u3 S E A N lr 18 s 0 row row acc):=Z_ ⟨_,HB.out⟩;clear HB az;rw [hl0] at c3;go_wp2_with fail
      go_meet
      obtain⟨row,HB⟩:=HB2.out;exact⟨acc,row,lr,HT,Z_ HB⟩
     ·have HT0:=HT.out
      clear HT;simp only [hl0,and_false,↓reduceIte] at HT0;have HT:=Z_ HT0;clear HT0;have hl1:0<acc.length:=by omega
      go_upto_region 4 with (fail)
      refine aj [3,4,5,7] (fun i v _=>v=([.pointer (some ⟨N,3,none⟩),(.slice ra acc.length rc),.pointer (some ⟨S,0,none⟩),undef,undef,undef,.pointer (some ⟨N,3,none⟩),undef]:List Value).getD i undef) (iM W w S E A N lr 18 s 0 (.slice ra acc.length rc) acc (bn m .expr lr)) (fun _ _=>True) (frame:=?JH) (fun x=>?wX) mixed (by kernel_rfl) (by kernel_rfl) (fun _ _ _ _ h _=>h) ?JI ?JJ ?wY
      case wX=>
       simp only [chain.aS,chain.fill,chain.bT,chain.bC,oV,oW,oZ,o5,o6,o7,o8,o_,pq];exact rfl
      case JI=>exact HB.out.extend (aB.refl _ _).drew
      case JJ=>
       iterate 8 (refine ak.cons (fun x vs u hF hm hb hd K' hK'=>?_) ?_;rotate_left)
       exact ak.nil
       ·have HF:=Z_ hF;clear hd hm hb hF;go_simp;exact hK'.out _ _ _ rfl trivial ⟨rfl,HF.out⟩
       ·have y0:x 21=.pointer (some ⟨N,3,none⟩):=(D_ hd 0 :);have hc:=hF.cell (by have:=hb 2 _ (by decide) rfl (by kernel_rfl);omega);have HF:=Z_ hF;clear hd hm hb hF;go_simp;exact hK'.out _ _ _ (by simp only [y0];rfl) trivial ⟨rfl,HF.out⟩
       ·have HF:=Z_ hF;clear hd hm hb hF;go_simp;exact hK'.out _ _ _ rfl trivial ⟨rfl,HF.out⟩
       ·have y0:x 23=.pointer (some ⟨S,0,none⟩):=(D_ hd 2 :);obtain rfl:=pR hm;have HF:=Z_ (show lD _ _ _ _ _ _ _ _ _ _ _ _ _ _ from hF);clear hd hm hb hF;have mM:=Z_ (ih m (by omega) .expr _ _ HF.out.pr HM.out rfl trivial (Out.bI HT.out jO.out));go_simp;refine mM.out.mono ?_
        rintro e u2 hr;obtain⟨hC,⟨lb,hp,rfl⟩|⟨xn,ln,v,hp,rfl,hv,hP⟩⟩:=hr.cases (Out.bI HT.out jO.out)
        ·have HE:=Z_ (Out.aH HT.out hp)
         have HC:=Z_ (HF.out.aU.then hC);clear hr hp hC hK' mM;go_wp2_with fail
         exact⟨rfl,gU.fails HC.out HE.out⟩
        ·exact hK'.out _ _ _ (by simp only [y0];rfl) trivial (jb HF.out hC hp hv hP (bZ.fM _ _ _ _ _ hp))
       ·obtain⟨v0,rfl⟩:=rE hm
        have y0:x 24=v0:=((D_ hd 3) 24 (by kernel_rfl) :);have hcl:∃ a b c d,v0=.agg #[a,b,c,d]:=by obtain⟨xn,ln,_,_,_,hx⟩:=hF;obtain⟨a,b,c,d,h,_⟩:=b_ hx;exact⟨a,b,c,d,h⟩
        obtain⟨a0,b0,c0,d0,rfl⟩:=hcl;have HF:=Z_ hF;clear hd hm hb hF;go_simp;exact hK'.out _ _ _ (by simp only [y0];rfl) trivial (fZ HF.out rfl)
       ·obtain⟨v0,v1,rfl⟩:=yP hm
        have y0:x 22=(.slice ra acc.length rc):=(D_ hd 1 :);have y1:x 25=v1:=((D_ hd 4) 25 (by kernel_rfl) :);have hF2:=hF;obtain⟨xn,ln,hT1,aY,hfew,hx,gg,rfl,hgb,hgr⟩:=hF2;obtain⟨us,hu1,ho,hu3⟩:=aY.grow.ex;have hlt:=aY.lt;obtain⟨mg,mD,hz0,hz1,hz2⟩:=bD gK;refine wp_append_lies _ _ _ 22 rfl (N+1) 24 mg (.agg #[.int .i64 0,.string ⟨#[]⟩,.int .i64 0,.slice none 0 0]) 4 56 Tryz.underlying22 mD hz0 hz1 hz2 rfl (by decide) (.slice ra acc.length rc) acc.length (us.flatMap fun u=>u.cells.toList) y0 ho ⟨gg,0,none⟩ 1 1 v0.cells.toList y1 (by rw [Array.length_toList,gY hx]) ?_ (by obtain⟨a,b,c,d,e,e2,p1,p2,p3,p4⟩:=b_ hx;rw [e2];intro q hq;simp at hq;rcases hq with rfl|rfl|rfl|rfl<;>assumption) (by decide) (by unfold maxLen;omega) (by omega) (by omega) u.heap.size rfl ?_
        ·intro j q hj;have e:(⟨gg,0,none⟩:Addr).add j=⟨gg,j,none⟩:=(by unfold Addr.add;split<;>simp_all);rw [e,hgb.cell];simpa using hj
        ·intro g9 c9 w9 kQ kM mF yK
         exact hK'.out _ _ _ rfl trivial (push_append hF hu1 hu3 kQ kM mF)
       ·have HF:=Z_ hF;clear hd hm hb hF;go_simp;exact hK'.out _ _ _ rfl trivial ⟨rfl,HF.out⟩
       ·obtain⟨v0,v1,v2,rfl⟩:=F_ hm
        have y0:x 27=.pointer (some ⟨N,3,none⟩):=(D_ hd 6 :);have y1:x 26=v2:=((D_ hd 5) 26 (by kernel_rfl) :);have hF2:=hF;obtain⟨xn,ln,hT1,aY,gg,cc,rfl⟩:=hF2;have hc:=aY.nd.cell 3;have hf:=aY.nd.frozen 3;have hl:=aY.lt;simp at hc
        have HF:=Z_ hF;clear hd hm hb hF aY hT1;go_simp;exact hK'.out _ _ undef (by simp only [y0,y1];rfl) trivial (f_ HF.out)
      case wY=>
       intro x vs w9 hl hF hk;obtain⟨v0,v1,v2,v3,rfl⟩:=Gf hl
       obtain⟨xn,ln,hT1,nT⟩:=hF;clear hk hl;replace HT:=Z_ (Out.aI HT.out hT1.out);replace HB:=Z_ nT;replace az:=Z_ HB.out.at;clear hT1 nT;have HH:=Z_ (eP az.out.pr fL);have iY:=Z_ (fun (h:eY ln [fL]=true)=>bZ.bg h);generalize eY ln [fL]=R at *;go_wp2_with fail
       refine HH.out.mono ?_
       rintro e u4 ⟨rfl,hC,hP⟩;cases R with
       | false=>
        replace hP:bW W u4 S E ln:=by simpa using hP
        have HT0:=HT.out;clear HT;simp only [Bool.false_eq_true,↓reduceIte] at HT0;have HT:=Z_ HT0;clear HT0;replace HB:=Z_ (HB.out.call hC hP (Nat.le_refl _));replace az:=Z_ HB.out.at;clear hC hP HH iY;go_wp2_with fail
        go_meet
        exact⟨acc ++ [xn],v2,ln,HT,HB⟩
       | true=>
        replace hP:bW W u4 S E ln.tail:=by simpa using hP
        have HT0:=HT.out;clear HT;simp only [↓reduceIte] at HT0;have HT:=Z_ HT0;clear HT0;replace HB:=Z_ (HB.out.call hC hP (by have:=iY.out rfl;omega));replace az:=Z_ HB.out.at;clear hC hP HH iY;go_wp2_with fail
        go_roundg m
        case rel=>exact⟨ln.tail,acc ++ [xn],v2,by omega,HT,HB⟩
        case measure=>omega
 case rest=>
  clear HT HB;obtain⟨acc,row,l2,HT,HB⟩:=hcut;have az:=Z_ HB.out.at;generalize wc=u7 at *;have HN:=Z_ (dV (az.out.pr.alloc (.cells #[.string aV] 9)) u7.heap.size 1 aV ((aJ.made u7 #[.string aV] 9).cell 0));have h_:=(aB.refl (fun _=>False) u7).alloc (.cells #[.string aV] 9);replace HB:=Z_ (HB.out.extend h_);replace az:=Z_ HB.out.at;clear h_;go_wp2_with fail
  refine HN.out.mono ?_
  rintro e u4 hr;obtain⟨hC,⟨lb,hp,rfl⟩|⟨_,l4,_,hp,rfl,rfl,hP⟩⟩:=hr.cases (eX _ _)
  ·have HF:=Z_ (Out.aH HT.out hp)
   have HC:=Z_ (az.out.aU.then hC);clear hr hp hC;go_wp2_with fail
   exact⟨rfl,gU.fails HC.out HF.out⟩
  replace HT:=Z_ (Out.aI HT.out hp);replace HB:=Z_ (HB.out.call hC hP (by have:=bZ.bz hp;omega));replace az:=Z_ HB.out.at;clear hr hp hC hP HN;obtain⟨ra,rn,rc,hrow⟩:=HB.out.slice3
  first|subst hrow|clear hrow
  have c0:=HB.out.nd.cell 0;have c1:=HB.out.nd.cell 1;have c2:=HB.out.nd.cell 2;have c3:=HB.out.nd.cell 3;have r0:=HB.out.res.cell;have rf:=HB.out.res.frozen;have rl:=HB.out.res.lt;unfold cG at r0;simp at c0 c1 c2 c3
  go_wp2_with fail
  refine cO rfl rfl rfl ((((HB.out.res.set 0 _).set 1 _).set 2 _).set 3 _) Tryz.underlying24 rfl (by kernel_rfl) ?_
  exact HB.out.ret (by omega) (HT.out.symm) _ _ _ _
end bH
end Go.Proofs.YtpcihajmcejliacGreatDoor
namespace Go.Proofs.YtpcihajmcejliacGreatDoor
open Go.RowKit
namespace bH
def qE (W w0:World) (S E A B N:Nat) (l:List Tk) (x:Nd) (v:Value) (op:Int) (T:Out Nd):List Value→World→Prop
 | [],u=>At W w0 u S E A l∧Loc S B N u x v∧B≤u.heap.size
 | [z],u=>∃ y l',Hid (T=.got y l')∧At W w0 u S E A l'∧Loc S B N u x v∧B≤u.heap.size∧ij (hide (wI B N) u) y z
 | [_,s],u=>∃ y l',Hid (T=.got y l')∧At W w0 u S E A l'∧Loc S B N u x v∧B≤u.heap.size∧∃ g,s=.slice (some ⟨g,0,none⟩) 2 2∧ij (hide (wI B N) u) (.mk 19 aF op [x,y]) (.agg #[.int .i64 19,.string aF,.int .i64 op,.slice (some ⟨g,0,none⟩) 2 2])
 | [_,_,n],u=>∃ y l',Hid (T=.got y l')∧At W w0 u S E A l'∧Loc S B N u x v∧B≤u.heap.size∧∃ g,n=.agg #[.int .i64 19,.string aF,.int .i64 op,.slice (some ⟨g,0,none⟩) 2 2]∧ij (hide (wI B N) u) (.mk 19 aF op [x,y]) n
 | [_,_,n,_],u=>∃ y l',Hid (T=.got y l')∧At W w0 u S E A l'∧Loc S B N u (.mk 19 aF op [x,y]) n∧B≤u.heap.size
 | _,_=>False
theorem qE.cells {W w0 u:World} {S E A B N:Nat} {l:List Tk} {x:Nd} {v:Value} {op:Int} {T:Out Nd} {vs:List Value} (h:qE W w0 S E A B N l x v op T vs u) (hv:vs.length≤1):Loc S B N u x v:=by
 match vs,hv,h with
 | [],_,h=>exact h.2.1
 | [_],_,⟨_,_,_,_,h,_⟩=>exact h
theorem KU {W w0 u u2:World} {S E A B N:Nat} {l l':List Tk} {x y:Nd} {v z:Value} {op:Int} {T:Out Nd} (h:qE W w0 S E A B N l x v op T [] u) (hC:aB (fun i=>i=S) u u2) (hT:T=.got y l') (hV:VN u.heap.size y z u2) (hP:bW W u2 S E l'):qE W w0 S E A B N l x v op T [z] u2:=by
 obtain⟨h1,h2,h3⟩:=h;have h4:=h2.nd.lt;refine⟨y,l',Z_ hT,h1.call hC hP,h2.call hC,Nat.le_trans h3 hC.size,aQ (bJ (Nat.le_refl _) fun i hi hm=>?_) _ _ hV⟩
 simp only [below,wI,decide_eq_false_iff_not,Bool.or_eq_false_iff] at hm ⊢;exact⟨⟨by omega,by omega⟩,trivial⟩
theorem I4 {W w0 u:World} {S E A B N:Nat} {l:List Tk} {x:Nd} {v z:Value} {op:Int} {T:Out Nd} (h:qE W w0 S E A B N l x v op T [z] u) {c:Array Value} (hc:v.cells++z.cells=c):qE W w0 S E A B N l x v op T [z,.slice (some ⟨u.heap.size,0,none⟩) 2 2] (u.alloc (.cells c 24)):=by
 obtain⟨y,l',hT,h1,h2,h3,h4⟩:=h;have hE:=(aB.refl (fun _=>False) u).alloc (.cells c 24);have h5:=h2.nd.lt;exact⟨y,l',hT,h1.extend hE,h2.extend hE,Nat.le_trans h3 hE.size,_,rfl,V9 h2.dat h4 (by simp [wI];omega) 19 op aF (by decide) hc⟩
theorem KW {W w0 u u2:World} {S E A B N:Nat} {l:List Tk} {x:Nd} {v z:Value} {op:Int} {T:Out Nd} {g:Nat} (h:qE W w0 S E A B N l x v op T [z,.slice (some ⟨g,0,none⟩) 2 2] u) (hE:Ext u u2):qE W w0 S E A B N l x v op T [z,.slice (some ⟨g,0,none⟩) 2 2,.agg #[.int .i64 19,.string aF,.int .i64 op,.slice (some ⟨g,0,none⟩) 2 2]] u2:=by
 obtain⟨y,l',hT,h1,h2,h3,g',e,h4⟩:=h;obtain rfl:g=g':=by simpa using e
 exact⟨y,l',hT,h1.extend hE,h2.extend hE,Nat.le_trans h3 hE.size,g,rfl,aQ (aN hE fun _ _ h=>h.elim) _ _ h4⟩
theorem I5 {W w0 u:World} {S E A B N:Nat} {l:List Tk} {x:Nd} {v z s q:Value} {op:Int} {T:Out Nd} {a b c d:Value} (h:qE W w0 S E A B N l x v op T [z,s,.agg #[a,b,c,d]] u) (Jl:A<N) :
  qE W w0 S E A B N l x v op T [z,s,.agg #[a,b,c,d],q] ((((u.setCell ⟨N,0,none⟩ a).setCell ⟨N,1,none⟩ b).setCell ⟨N,2,none⟩ c).setCell ⟨N,3,none⟩ d):=by
 obtain⟨y,l',hT,h1,h2,h3,g,e,h4⟩:=h;have hC:aB (fun i=>i=N) u ((((u.setCell ⟨N,0,none⟩ a).setCell ⟨N,1,none⟩ b).setCell ⟨N,2,none⟩ c).setCell ⟨N,3,none⟩ d):=aA (aA (aA (aA (aB.refl _ _) 0 a) 1 b) 2 c) 3 d;refine⟨y,l',hT,h1.far hC Jl,⟨?_,aQ (aN hC fun i _ e=>by rw [e];simp [wI]) _ _ h4,h2.P8,h2.hSN⟩,Nat.le_trans h3 hC.size⟩
 have hs:=gY h2.dat;have h5:=(((h2.nd.set 0 a).set 1 b).set 2 c).set 3 d
 have e:(((v.cells.setIfInBounds 0 a).setIfInBounds 1 b).setIfInBounds 2 c).setIfInBounds 3 d=(Value.agg #[a,b,c,d]).cells:=by
  obtain⟨a',b',c',d',-,e',-⟩:=b_ h2.dat;rw [e'];rfl
 rw [e] at h5;exact h5
set_option maxRecDepth 100000 in
set_option maxHeartbeats 4000000 in
theorem PM {n:Nat} (ih:∀ m,m≤n→Good m) {W w:World} {S E:Nat} {l:List Tk} {k:Nat} (h:bW W w S E l) (hm:dG W) (hk:k≤3) (hne:bn (n+1) (.bound k) l≠.out) :
  Calls Tryz.prog 364 #[.pointer (some ⟨S,0,none⟩),.int .i64 (k:Nat)] w (gU (VN w.heap.size) W w S E (bn (n+1) (.bound k) l)):=by
 obtain⟨T,hT⟩:∃ T,bn (n+1) (.bound k) l=T:=⟨_,rfl⟩;rw [hT] at hne ⊢;simp only [bn] at hT;have HT:=Z_ hT;have jO:=Z_ hne;have HM:=Z_ hm;have az:Hid (At W w (w.alloc (.cells #[.int .i64 0,.string ⟨#[]⟩,.int .i64 0,.slice none 0 0] 24)) S E w.heap.size l):=Z_ (At.start h);obtain⟨A,hA⟩:∃ A,w.heap.size=A:=⟨_,rfl⟩;rw [hA] at az;have VY:S<A:=by have:=h.lt;omega
 clear h hm hne hT;go_enter Tryz.func364,Tryz.ntmps364
 go_upto_region 1 with (fail)
 generalize w.alloc (.cells #[.int .i64 0,.string ⟨#[]⟩,.int .i64 0,.slice none 0 0] 24)=u0 at *;by_cases hk2:2<k
 ·have HT0:=HT.out
  clear HT;simp only [hk2,↓reduceIte] at HT0;have HT:=Z_ HT0;clear HT0;obtain rfl:k=3:=by omega
  have jW:=az.out.lt;obtain⟨B,hB⟩:∃ B,u0.heap.size=B:=⟨_,rfl⟩;rw [hB] at jW;have HN:=Z_ (ih n (Nat.le_refl _) (.unary) _ _ az.out.pr HM.out rfl trivial (by rw [HT.out];exact jO.out));go_wp2_with fail
  refine HN.out.mono ?_
  rintro e u1 hr;obtain⟨hC,⟨lb,hp,rfl⟩|⟨x1,l1,v1,hp,rfl,hv,hP⟩⟩:=hr.cases (by rw [HT.out];exact jO.out)
  ·have HF:=Z_ (HT.out.symm.trans hp)
   have HC:=Z_ (az.out.aU.then hC);clear hr hp hC;go_wp2_with fail
   exact⟨rfl,gU.fails HC.out HF.out⟩
  replace HT:=Z_ (HT.out.symm.trans hp);replace az:=Z_ (az.out.call hC hP);obtain⟨ka1,ta1,ma1,aa1,na1,ca1,rfl⟩:=dF hv;have VZ:=Z_ hv;have hsz1:u0.heap.size≤u1.heap.size:=hC.size;clear hr hp hC hP hv HN;rw [hB] at VZ;have r0:=az.out.res.cell;have rf:=az.out.res.frozen;have rl:=az.out.res.lt;unfold cG at r0;go_wp2_with fail
  refine cO rfl rfl rfl ((((az.out.res.set 0 _).set 1 _).set 2 _).set 3 _) Tryz.underlying24 rfl (by kernel_rfl) ?_
  exact g_ az.out (below B) (VZ.out) (dX (by omega)) (fun i hi=>dX (by omega)) (HT.out)
 ·have HT0:=HT.out
  clear HT;simp only [hk2,↓reduceIte] at HT0;have HT:=Z_ HT0;clear HT0;have hk3:¬ ((k:Int) > 2):=by omega
  have hk4:¬ (2<(k:Int)):=by omega
  have hkw:IntKind.i64.wrap ((k:Int)+1)=((k+1:Nat):Int):=by rw [wrap_small _ (by omega) (by omega)];rfl
  have ay7:wrap64 ((k:Int)+1)=((k+1:Nat):Int):=by unfold wrap64;omega
  have jW:=az.out.lt;obtain⟨B,hB⟩:∃ B,u0.heap.size=B:=⟨_,rfl⟩;rw [hB] at jW;have HN:=Z_ (ih n (Nat.le_refl _) (.bound (k+1)) _ _ az.out.pr HM.out rfl (by omega:k+1≤3) (Out.bI HT.out jO.out));go_wp2_with fail
  refine HN.out.mono ?_
  rintro e u1 hr;obtain⟨hC,⟨lb,hp,rfl⟩|⟨x1,l1,v1,hp,rfl,hv,hP⟩⟩:=hr.cases (Out.bI HT.out jO.out)
  ·have HF:=Z_ (Out.aH HT.out hp)
   have HC:=Z_ (az.out.aU.then hC);clear hr hp hC;go_wp2_with fail
   exact⟨rfl,gU.fails HC.out HF.out⟩
  replace HT:=Z_ (Out.aI HT.out hp);replace az:=Z_ (az.out.call hC hP);obtain⟨ka1,ta1,ma1,aa1,na1,ca1,rfl⟩:=dF hv;have VZ:=Z_ hv;have hsz1:u0.heap.size≤u1.heap.size:=hC.size;clear hr hp hC hP hv HN;rw [hB] at VZ hsz1;have HL:=Z_ (Loc.start VZ.out (by omega:S<B) hsz1 (c:=#[.int .i64 ka1,.string ta1,.int .i64 ma1,.slice aa1 na1 ca1]) rfl);replace az:=Z_ (az.out.alloc (.cells #[.int .i64 ka1,.string ta1,.int .i64 ma1,.slice aa1 na1 ca1] 24));obtain⟨N,hN⟩:∃ N,u1.heap.size=N:=⟨_,rfl⟩;have hBN:B≤N:=hN▸hsz1
  rw [hN] at HL;go_wp2_with fail
  generalize u1.alloc (.cells #[.int .i64 ka1,.string ta1,.int .i64 ma1,.slice aa1 na1 ca1] 24)=v0 at *;have HLl:=HL.out.nd.lt;go_loopg [] n (fun kk wr=>∃ l2 x v,kk≤n∧B≤wr.heap.size∧Hid (bn kk (.loop k x) l2=T)∧Hid (At W w wr S E A l2)∧Hid (Loc S B N wr x v))
  case atStart=>exact⟨l1,x1,.agg #[.int .i64 ka1,.string ta1,.int .i64 ma1,.slice aa1 na1 ca1],Nat.le_refl _,by omega,HT,az,HL⟩
  clear HT az HL VZ
  case round=>
   obtain⟨lr,xd,vd,hkn,hBr,HT,az,HL⟩:=hrel;cases gk with
   | zero=>exact absurd HT.out.symm jO.out
   | succ m=>
    have HT0:=HT.out;clear HT;simp only [bn] at HT0;have HT:=Z_ HT0;clear HT0;obtain⟨kx,tx,mx,ax,nx,cx,rfl⟩:=dF HL.out.dat;have HH:=Z_ (sO az.out.pr);have hkk:=LV E lr;have htt:=Va E lr;have hpr:∀ t r,lr=t::r→xQ E lr=t:=fun t r e=>by rw [e];rfl
    generalize xQ E lr=tk0 at HH hkk htt hpr;obtain⟨tk,tt,ta⟩:=tk0;simp only at hkk htt;unfold OM at HH;rw [←hkk,←htt] at HT;have HOP:=Z_ (S9 tt);generalize lI tt=oo at *;obtain⟨op,lv⟩:=oo;simp only at HT HOP;have HK:=Z_ hkk;clear hkk htt hpr;go_wp2_with fail
    refine HH.out.mono ?_
    rintro e u5 ⟨rfl,hE⟩;have hP5:=Z_ (aJ.made u5 #[.int .i64 tk,.string tt,.int .i64 ta] 195);have xN:=hE.alloc (.cells #[.int .i64 tk,.string tt,.int .i64 ta] 195);replace az:=Z_ (az.out.extend xN);replace HL:=Z_ (HL.out.extend xN);have YS:=Nat.le_trans hBr xN.size;obtain⟨Pk,hPk⟩:∃ Pk,u5.heap.size=Pk:=⟨_,rfl⟩;rw [hPk] at hP5;clear hE xN HH;go_upto_region 5 with (fail)
    generalize u5.alloc (.cells #[.int .i64 tk,.string tt,.int .i64 ta] 195)=u6 at *;have p0:=hP5.out.cell 0;have p1:=hP5.out.cell 1;simp at p0 p1
    go_wp2_with fail
    refine(HOP.out _).mono ?_
    rintro e w' ⟨rfl,rfl⟩;clear HOP p1;by_cases hlv:lv=(k:Int)
    ·by_cases htk:tk=3
     ·subst htk
      have Vw:(lv != (k:Int))=false:=by simp [hlv]
      have HT0:=HT.out;clear HT;simp only [hlv,and_self,↓reduceIte] at HT0;have HT:=Z_ HT0;clear HT0;obtain⟨t0,r0,rfl⟩:∃ t r,lr=t::r:=by cases lr with|nil=>exact absurd HK.out (by decide)|cons t r=>exact⟨t,r,rfl⟩
      obtain⟨kc,hkc,a74,uS⟩:=Aq az.out.pr;obtain⟨a',n',c',k',hBk,-,-⟩:=BJ az.out.pr;have hf:=hBk.frozen 1;have hSl:=hBk.lt;have a78:IntKind.i64.wrap ((kc:Int)+1)=(kc:Int)+1:=wrap_small _ (by omega) (by omega);replace HL:=Z_ (HL.out.call (aA (aB.refl _ _) 1 (.int .i64 ((kc:Int)+1))));replace az:=Z_ (az.out.call (aA (aB.refl _ _) 1 (.int .i64 ((kc:Int)+1))) uS);clear uS hBk hP5;go_upto_region 9 with (fail)
      clear hkc hf hSl p0;have Uk:B≤(u6.setCell ⟨S,1,none⟩ (.int .i64 ((kc:Int)+1))).heap.size:=by simpa using YS
      generalize u6.setCell ⟨S,1,none⟩ (.int .i64 ((kc:Int)+1))=u8 at *;have Jl:A<N:=by omega
      refine aj [5,6,7,8] (fun i v _=>v=([.int .i64 op,.agg #[.int .i64 kx,.string tx,.int .i64 mx,.slice ax nx cx],.pointer (some ⟨S,0,none⟩),.int .i64 (k:Nat),.int .i64 ((k+1:Nat):Int),undef,undef,undef,undef]:List Value).getD i undef) (qE W w S E A B N r0 xd (.agg #[.int .i64 kx,.string tx,.int .i64 mx,.slice ax nx cx]) op (bn m (.bound (k+1)) r0)) (fun _ _=>True) (frame:=?fra) (fun x=>?hfa) mixed (by kernel_rfl) (by kernel_rfl) (fun _ _ _ _ h _=>h) ?h0 ?st ?fin
      case hfa=>
       simp only [chain.aS,chain.fill,chain.bT,chain.bC,oV,oW,oZ,o5,o6,o7,o8,o_,pq];exact rfl
      case h0=>exact⟨az.out.extend (aB.refl _ _).drew,HL.out.extend (aB.refl _ _).drew,Uk⟩
      case st=>
       iterate 9 (refine ak.cons (fun x vs u hF hm hb hd K' hK'=>?_) ?_;rotate_left)
       exact ak.nil
       ·have HF:=Z_ hF;clear hd hm hb hF;go_simp;exact hK'.out _ _ _ rfl trivial ⟨rfl,HF.out⟩
       ·have Zg:=hF.cells (by have:=hb 1 _ (by decide) rfl (by kernel_rfl);omega);have hc:=Zg.nd.cell;simp only [Value.cells] at hc;clear Zg;have HF:=Z_ hF;clear hd hm hb hF;go_simp;exact hK'.out _ _ _ rfl trivial ⟨rfl,HF.out⟩
       ·have HF:=Z_ hF;clear hd hm hb hF;go_simp;exact hK'.out _ _ _ rfl trivial ⟨rfl,HF.out⟩
       ·have HF:=Z_ hF;clear hd hm hb hF;go_simp;exact hK'.out _ _ _ rfl trivial ⟨rfl,HF.out⟩
       ·have y0:x 44=.int .i64 (k:Nat):=(D_ hd 3 :);have HF:=Z_ hF;clear hd hm hb hF;go_simp;exact hK'.out _ _ _ (by simp only [y0];rfl) trivial ⟨by first|rfl|simp [hkw]|simp [ay7],HF.out⟩
       ·have y0:x 43=.pointer (some ⟨S,0,none⟩):=(D_ hd 2 :);have y1:x 45=.int .i64 ((k+1:Nat):Int):=(D_ hd 4 :);obtain rfl:=pR hm;have HF:=Z_ hF;clear hd hm hb hF;have mM:=Z_ (ih m (by omega) (.bound (k+1)) _ _ HF.out.1.pr HM.out rfl (by omega:k+1≤3) (Out.bI HT.out jO.out));go_simp;refine mM.out.mono ?_
        rintro e u2 hr;obtain⟨hC,⟨lb,hp,rfl⟩|⟨xn,ln,z,hp,rfl,hv,hP⟩⟩:=hr.cases (Out.bI HT.out jO.out)
        ·have HE:=Z_ (Out.aH HT.out hp)
         have HC:=Z_ (HF.out.1.aU.then hC);clear hr hp hC hK' mM;go_wp2_with fail
         exact⟨rfl,gU.fails HC.out HE.out⟩
        ·exact hK'.out _ _ _ (by simp only [y0,y1];rfl) trivial (KU HF.out hC hp hv hP)
       ·obtain⟨v0,rfl⟩:=rE hm
        have y0:x 42=.agg #[.int .i64 kx,.string tx,.int .i64 mx,.slice ax nx cx]:=(D_ hd 1 :);have y1:x 46=v0:=((D_ hd 5) 46 (by kernel_rfl) :);have hcl:∃ a b c d,v0=.agg #[a,b,c,d]:=by obtain⟨yn,ln,_,_,_,_,hx⟩:=hF;obtain⟨a,b,c,d,h,_⟩:=b_ hx;exact⟨a,b,c,d,h⟩
        obtain⟨a0,b0,c0,d0,rfl⟩:=hcl;have HF:=Z_ hF;clear hd hm hb hF;go_simp;exact hK'.out _ _ _ (by simp only [y0,y1];rfl) trivial (I4 HF.out rfl)
       ·obtain⟨v0,v1,rfl⟩:=yP hm
        have y0:x 41=.int .i64 op:=(D_ hd 0 :);have y1:x 47=v1:=((D_ hd 6) 47 (by kernel_rfl) :);have hcl:∃ g,v1=.slice (some ⟨g,0,none⟩) 2 2:=by obtain⟨yn,ln,_,_,_,_,g,e,_⟩:=hF;exact⟨g,e⟩
        obtain⟨g,rfl⟩:=hcl;have HF:=Z_ hF;clear hd hm hb hF;go_simp;refine(fG _ _ _ _ _ _ _).mono ?_
        rintro e u2 ⟨rfl,hE⟩;exact hK'.out _ _ _ (by simp only [y0,y1];rfl) trivial (KW HF.out hE)
       ·obtain⟨v0,v1,v2,rfl⟩:=F_ hm
        have y1:x 48=v2:=((D_ hd 7) 48 (by kernel_rfl) :);have hcl:∃ g,v2=.agg #[.int .i64 19,.string aF,.int .i64 op,.slice (some ⟨g,0,none⟩) 2 2]:=by obtain⟨yn,ln,_,_,_,_,g,e,_⟩:=hF;exact⟨g,e⟩
        obtain⟨g,rfl⟩:=hcl;have Zg:Loc S B N u xd (.agg #[.int .i64 kx,.string tx,.int .i64 mx,.slice ax nx cx]):=by obtain⟨yn,ln,_,_,h,_⟩:=hF;exact h
        have hc:=Zg.nd.cell;have hcf:=Zg.nd.frozen;have hcl:=Zg.nd.lt;simp only [Value.cells] at hc;clear Zg;have HF:=Z_ hF;clear hd hm hb hF;go_simp;exact hK'.out _ _ undef (by simp only [y1];rfl) trivial (I5 HF.out Jl)
      case fin=>
       intro x vs w9 hl hF ay8;obtain⟨v0,v1,v2,v3,rfl⟩:=Gf hl
       obtain⟨yn,ln,hT1,Ug,hL9,nT⟩:=hF;clear ay8 hl;replace HT:=Z_ (Out.aI HT.out hT1.out);replace az:=Z_ Ug;replace HL:=Z_ hL9;clear hT1 Ug hL9;by_cases hk0:k=0
       ·subst hk0
        have HT0:=HT.out;clear HT;simp only [↓reduceIte] at HT0;have HT:=Z_ HT0;clear HT0;obtain⟨ky,ty,my,ay,ny,cy,rfl⟩:=dF HL.out.dat;have hc:=HL.out.nd.cell;simp only [Value.cells] at hc;have r0:=az.out.res.cell;have rf:=az.out.res.frozen;have rl:=az.out.res.lt;unfold cG at r0;go_wp2_with fail
        refine cO rfl rfl rfl ((((az.out.res.set 0 _).set 1 _).set 2 _).set 3 _) Tryz.underlying24 rfl (by kernel_rfl) ?_
        exact g_ az.out (wI B N) (HL.out.dat) (lC (by omega)) (fun i hi=>lC (by omega)) (HT.out.symm)
       ·have hk5:((k:Int) == 0)=false:=by simp;omega
        have HT0:=HT.out;clear HT;simp only [hk0,↓reduceIte] at HT0;have HT:=Z_ HT0;clear HT0;go_wp2_with fail
        go_roundg m
        case rel=>exact⟨ln,_,v2,by omega,nT,HT,az,HL⟩
        case measure=>omega
     ·have Vw:(lv != (k:Int))=false:=by simp [hlv]
      have a7_:(tk != 3)=true:=by simpa using htk
      have hno:¬ (tk=3∧lv=(k:Int)):=fun h=>htk h.1
      have HT0:=HT.out;clear HT;simp only [hno,↓reduceIte] at HT0;have HT:=Z_ HT0;clear HT0;have hc:=HL.out.nd.cell;simp only [Value.cells] at hc;have r0:=az.out.res.cell;have rf:=az.out.res.frozen;have rl:=az.out.res.lt;unfold cG at r0;go_wp2_with fail
      refine cO rfl rfl rfl ((((az.out.res.set 0 _).set 1 _).set 2 _).set 3 _) Tryz.underlying24 rfl (by kernel_rfl) ?_
      exact g_ az.out (wI B N) (HL.out.dat) (lC (by omega)) (fun i hi=>lC (by omega)) (HT.out.symm)
    ·have Vw:(lv != (k:Int))=true:=by simpa using hlv
     have hno:¬ (tk=3∧lv=(k:Int)):=fun h=>hlv h.2
     have HT0:=HT.out;clear HT;simp only [hno,↓reduceIte] at HT0;have HT:=Z_ HT0;clear HT0;have hc:=HL.out.nd.cell;simp only [Value.cells] at hc;have r0:=az.out.res.cell;have rf:=az.out.res.frozen;have rl:=az.out.res.lt;unfold cG at r0;go_wp2_with fail
     refine cO rfl rfl rfl ((((az.out.res.set 0 _).set 1 _).set 2 _).set 3 _) Tryz.underlying24 rfl (by kernel_rfl) ?_
     exact g_ az.out (wI B N) (HL.out.dat) (lC (by omega)) (fun i hi=>lC (by omega)) (HT.out.symm)
end bH
end Go.Proofs.YtpcihajmcejliacGreatDoor
