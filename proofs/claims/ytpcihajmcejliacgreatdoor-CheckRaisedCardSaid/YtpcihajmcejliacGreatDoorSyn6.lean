/- The walk of the program's parser: statements. -/
import Derived.Test.YtpcihajmcejliacGreatDoorSyn5
namespace Go.Proofs.YtpcihajmcejliacGreatDoor
open Go.RowKit
namespace bH
set_option maxRecDepth 100000 in
set_option maxHeartbeats 4000000 in
theorem uZ {n:Nat} (ih:∀ m,m≤n→Good m) {W w:World} {S E:Nat} {l:List Tk} (h:bW W w S E l) (hm:dG W) (hne:bn (n+1) (.stat) l≠.out) :
  Calls Tryz.prog 276 #[.pointer (some ⟨S,0,none⟩)] w (gU (VN w.heap.size) W w S E (bn (n+1) (.stat) l)):=by
 obtain⟨T,hT⟩:∃ T,bn (n+1) (.stat) l=T:=⟨_,rfl⟩;rw [hT] at hne ⊢;simp only [bn] at hT;have HT:=Z_ hT;have jO:=Z_ hne;have HM:=Z_ hm;have az:Hid (At W w (w.alloc (.cells #[.int .i64 0,.string ⟨#[]⟩,.int .i64 0,.slice none 0 0] 24)) S E w.heap.size l):=Z_ (At.start h);obtain⟨A,hA⟩:∃ A,w.heap.size=A:=⟨_,rfl⟩;rw [hA] at az;have VY:S<A:=by have:=h.lt;omega
 clear h hm hne hT;go_enter Tryz.func276,Tryz.ntmps276
 go_upto_region 1 with (fail)
 generalize w.alloc (.cells #[.int .i64 0,.string ⟨#[]⟩,.int .i64 0,.slice none 0 0] 24)=u0 at *;have hlen:=KX az.out.pr;have HLEN:=Z_ hlen;clear hlen;have HB:=Z_ ((az.out.alloc (.cells #[.int .i64 0,.string ⟨#[]⟩,.int .i64 0,.slice none 0 0] 24)).bld (aJ.made u0 _ _) az.out.lt);obtain⟨N,hN⟩:∃ N,u0.heap.size=N:=⟨_,rfl⟩;rw [hN] at HB;have Jl:=az.out.lt;rw [hN] at Jl;clear az;have az:=Z_ HB.out.at;go_upto_region 5 with (fail)
 generalize u0.alloc (.cells #[.int .i64 0,.string ⟨#[]⟩,.int .i64 0,.slice none 0 0] 24)=u1 at *
 have HH:=Z_ (y_ (az.out.pr.alloc (.cells #[.string rI,.string pF] 9)) u1.heap.size [rI,pF] 2 2 rfl (by decide) (fun j hj=>by
  have hj2:j<2:=by simpa using hj
  obtain rfl|rfl:j=0∨j=1:=by omega
  ·exact(aJ.made u1 #[.string rI,.string pF] 9).cell 0
  ·exact(aJ.made u1 #[.string rI,.string pF] 9).cell 1) (by simp))
 have h_:=(aB.refl (fun _=>False) u1).alloc (.cells #[.string rI,.string pF] 9);replace HB:=Z_ (HB.out.extend h_);replace az:=Z_ HB.out.at;clear h_;generalize eY l [rI,pF]=R at *;go_wp2_with fail
 refine HH.out.mono ?_
 rintro e u2 ⟨rfl,hE⟩;replace HB:=Z_ (HB.out.extend hE);replace az:=Z_ HB.out.at;clear hE HH;cases R with
 | false=>
  have HT0:=HT.out;clear HT;simp only [Bool.false_eq_true,↓reduceIte] at HT0;have HT:=Z_ HT0;clear HT0;have HH:=Z_ (eP az.out.pr TZ);have iY:=Z_ (fun (h:eY l [TZ]=true)=>bZ.bg h);generalize eY l [TZ]=R at *;go_wp2_with fail
  refine HH.out.mono ?_
  rintro e u3 ⟨rfl,hC,hP⟩;cases R with
  | false=>
   replace hP:bW W u3 S E l:=by simpa using hP
   have HT0:=HT.out;clear HT;simp only [Bool.false_eq_true,↓reduceIte] at HT0;have HT:=Z_ HT0;clear HT0;replace HB:=Z_ (HB.out.call hC hP (Nat.le_refl _));replace az:=Z_ HB.out.at;clear hC hP HH iY;have HH:=Z_ (eP az.out.pr T_);have iY:=Z_ (fun (h:eY l [T_]=true)=>bZ.bg h);generalize eY l [T_]=R at *;go_wp2_with fail
   refine HH.out.mono ?_
   rintro e u4 ⟨rfl,hC,hP⟩;cases R with
   | false=>
    replace hP:bW W u4 S E l:=by simpa using hP
    have HT0:=HT.out;clear HT;simp only [Bool.false_eq_true,↓reduceIte] at HT0;have HT:=Z_ HT0;clear HT0;replace HB:=Z_ (HB.out.call hC hP (Nat.le_refl _));replace az:=Z_ HB.out.at;clear hC hP HH iY;have HH:=Z_ (eP az.out.pr tY);have iY:=Z_ (fun (h:eY l [tY]=true)=>bZ.bg h);generalize eY l [tY]=R at *;go_wp2_with fail
    refine HH.out.mono ?_
    rintro e u5 ⟨rfl,hC,hP⟩;cases R with
    | false=>
     replace hP:bW W u5 S E l:=by simpa using hP
     have HT0:=HT.out;clear HT;simp only [Bool.false_eq_true,↓reduceIte] at HT0;have HT:=Z_ HT0;clear HT0;replace HB:=Z_ (HB.out.call hC hP (Nat.le_refl _));replace az:=Z_ HB.out.at;clear hC hP HH iY;have HH:=Z_ (eP az.out.pr EH);have iY:=Z_ (fun (h:eY l [EH]=true)=>bZ.bg h);generalize eY l [EH]=R at *;go_wp2_with fail
     refine HH.out.mono ?_
     rintro e u6 ⟨rfl,hC,hP⟩;cases R with
     | false=>
      replace hP:bW W u6 S E l:=by simpa using hP
      have HT0:=HT.out;clear HT;simp only [Bool.false_eq_true,↓reduceIte] at HT0;have HT:=Z_ HT0;clear HT0;replace HB:=Z_ (HB.out.call hC hP (Nat.le_refl _));replace az:=Z_ HB.out.at;clear hC hP HH iY;have HH:=Z_ (eP az.out.pr Uy);have iY:=Z_ (fun (h:eY l [Uy]=true)=>bZ.bg h);generalize eY l [Uy]=R at *;go_wp2_with fail
      refine HH.out.mono ?_
      rintro e u7 ⟨rfl,hC,hP⟩;cases R with
      | false=>
       replace hP:bW W u7 S E l:=by simpa using hP
       have HT0:=HT.out;clear HT;simp only [Bool.false_eq_true,↓reduceIte] at HT0;have HT:=Z_ HT0;clear HT0;replace HB:=Z_ (HB.out.call hC hP (Nat.le_refl _));replace az:=Z_ HB.out.at;clear hC hP HH iY;have HH:=Z_ (eP az.out.pr oN);have iY:=Z_ (fun (h:eY l [oN]=true)=>bZ.bg h);generalize eY l [oN]=R at *;go_wp2_with fail
       refine HH.out.mono ?_
       rintro e u8 ⟨rfl,hC,hP⟩;cases R with
       | false=>
        replace hP:bW W u8 S E l:=by simpa using hP
        have HT0:=HT.out;clear HT;simp only [Bool.false_eq_true,↓reduceIte] at HT0;have HT:=Z_ HT0;clear HT0;replace HB:=Z_ (HB.out.call hC hP (Nat.le_refl _));replace az:=Z_ HB.out.at;clear hC hP HH iY;have HN:=Z_ (ni az.out.pr HM.out);go_wp2_with fail
        refine HN.out.mono ?_
        rintro e u9 hr;obtain⟨hC,⟨lb,hp,rfl⟩|⟨s9,l9,v,hp,rfl,⟨rfl,hs⟩,hP⟩⟩:=hr.cases (wC _)
        ·have HF:=Z_ (Out.aH HT.out hp)
         have HC:=Z_ (az.out.aU.then hC);clear hr hp hC;go_wp2_with fail
         exact⟨rfl,gU.fails HC.out HF.out⟩
        replace HT:=Z_ (Out.aI HT.out hp);have ay9:=Z_ (bZ.jG hp);replace HB:=Z_ (HB.out.call hC hP (by have:=bZ.jG hp;omega));replace az:=Z_ HB.out.at;have qI:=Z_ hs;clear hr hp hC hP HN;clear hs;have jW:=HB.out.lt;obtain⟨B,hB⟩:∃ B,u9.heap.size=B:=⟨_,rfl⟩;rw [hB] at jW;have HN:=Z_ (ih n (Nat.le_refl _) (.place s9) _ _ az.out.pr HM.out rfl qI.out (Out.bI HT.out jO.out));go_wp2_with fail
        refine HN.out.mono ?_
        rintro e u10 hr;obtain⟨hC,⟨lb,hp,rfl⟩|⟨x10,l10,v10,hp,rfl,hv,hP⟩⟩:=hr.cases (Out.bI HT.out jO.out)
        ·have HF:=Z_ (Out.aH HT.out hp)
         have HC:=Z_ (az.out.aU.then hC);clear hr hp hC;go_wp2_with fail
         exact⟨rfl,gU.fails HC.out HF.out⟩
        replace HT:=Z_ (Out.aI HT.out hp);have al6:=Z_ ((show _ from bZ.fM _ _ _ _ _ hp));replace HB:=Z_ (HB.out.call hC hP (by have:=bZ.fM _ _ _ _ _ hp;omega));replace az:=Z_ HB.out.at;obtain⟨V3,V4,V5,V6,V7,V8,rfl⟩:=dF hv;have I0:=Z_ hv;have Nc:u9.heap.size≤u10.heap.size:=hC.size;clear hr hp hC hP hv HN;rw [hB] at I0 Nc;have HG:=Z_ (qF I0.out (by omega:N+1≤B) Nc (c:=#[.int .i64 V3,.string V4,.int .i64 V5,.slice V6 V7 V8]) rfl);have h_:=(aB.refl (fun _=>False) u10).alloc (.cells #[.int .i64 V3,.string V4,.int .i64 V5,.slice V6 V7 V8] 24);replace HB:=Z_ (HB.out.extend h_);replace az:=Z_ HB.out.at;clear h_;go_wp2_with fail
        refine(fG _ _ _ _ _ _ _).mono ?_
        rintro e u11 ⟨rfl,hE⟩;replace HB:=Z_ (HB.out.extend hE);replace az:=Z_ HB.out.at;replace HG:=Z_ (HG.out.aU gJ hE (fun _ h=>h.elim));have n0:=HB.out.nd.cell;have nf:=HB.out.nd.frozen;have nl:=HB.out.nd.lt;go_upto_region 3 with (fail)
        replace HB:=Z_ (HB.out.put (kind:=8) (text:=⟨#[]⟩) (num:=0) HG.out (by simp only [List.length_singleton];have:=HLEN.out;have:=ay9.out;have:=al6.out;omega));replace az:=Z_ HB.out.at;clear n0 nf nl hE HG;generalize (((u11.setCell ⟨N,0,none⟩ (.int .i64 8)).setCell ⟨N,1,none⟩ (.string ⟨#[]⟩)).setCell ⟨N,2,none⟩ (.int .i64 0)).setCell ⟨N,3,none⟩ (.slice (some ⟨u10.heap.size,0,none⟩) 1 1)=v11 at *;have HN:=Z_ (dV (az.out.pr.alloc (.cells #[.string Ai] 9)) v11.heap.size 1 Ai ((aJ.made v11 #[.string Ai] 9).cell 0));have h_:=(aB.refl (fun _=>False) v11).alloc (.cells #[.string Ai] 9);replace HB:=Z_ (HB.out.extend h_);replace az:=Z_ HB.out.at;clear h_;go_wp2_with fail
        refine HN.out.mono ?_
        rintro e u12 hr;obtain⟨hC,⟨lb,hp,rfl⟩|⟨_,l12,_,hp,rfl,rfl,hP⟩⟩:=hr.cases (eX _ _)
        ·have HF:=Z_ (Out.aH HT.out hp)
         have HC:=Z_ (az.out.aU.then hC);clear hr hp hC;go_wp2_with fail
         exact⟨rfl,gU.fails HC.out HF.out⟩
        replace HT:=Z_ (Out.aI HT.out hp);have az2:=Z_ (bZ.bz hp);replace HB:=Z_ (HB.out.call hC hP (by have:=bZ.bz hp;omega));replace az:=Z_ HB.out.at;clear hr hp hC hP HN;go_upto_region 4 with (fail)
        refine aj [3,4,5,7] (fun i v _=>v=([.pointer (some ⟨N,3,none⟩),(.slice (some ⟨u10.heap.size,0,none⟩) 1 1),.pointer (some ⟨S,0,none⟩),undef,undef,undef,.pointer (some ⟨N,3,none⟩),undef]:List Value).getD i undef) (iM W w S E A N l12 8 ⟨#[]⟩ 0 (.slice (some ⟨u10.heap.size,0,none⟩) 1 1) [x10] (bn n .expr l12)) (fun _ _=>True) (frame:=?Kv) (fun x=>?xj) mixed (by kernel_rfl) (by kernel_rfl) (fun _ _ _ _ h _=>h) ?Kw ?Ky ?xk
        case xj=>
         simp only [chain.aS,chain.fill,chain.bT,chain.bC,oV,oW,oZ,o5,o6,o7,o8,o_,pq];exact rfl
        case Kw=>exact HB.out.extend (aB.refl _ _).drew
        case Ky=>
         iterate 8 (refine ak.cons (fun x vs u hF hm hb hd K' hK'=>?_) ?_;rotate_left)
         exact ak.nil
         ·have HF:=Z_ hF;clear hd hm hb hF;go_simp;exact hK'.out _ _ _ rfl trivial ⟨rfl,HF.out⟩
         ·have y0:x 16=.pointer (some ⟨N,3,none⟩):=(D_ hd 0 :);have hc:=hF.cell (by have:=hb 2 _ (by decide) rfl (by kernel_rfl);omega);have HF:=Z_ hF;clear hd hm hb hF;go_simp;exact hK'.out _ _ _ (by simp only [y0];rfl) trivial ⟨rfl,HF.out⟩
         ·have HF:=Z_ hF;clear hd hm hb hF;go_simp;exact hK'.out _ _ _ rfl trivial ⟨rfl,HF.out⟩
         ·have y0:x 18=.pointer (some ⟨S,0,none⟩):=(D_ hd 2 :);obtain rfl:=pR hm;have HF:=Z_ (show lD _ _ _ _ _ _ _ _ _ _ _ _ _ _ from hF);clear hd hm hb hF;have mM:=Z_ (ih n (Nat.le_refl _) .expr _ _ HF.out.pr HM.out rfl trivial (Out.bI HT.out jO.out));go_simp;refine mM.out.mono ?_
          rintro e u2 hr;obtain⟨hC,⟨lb,hp,rfl⟩|⟨xn,ln,v,hp,rfl,hv,hP⟩⟩:=hr.cases (Out.bI HT.out jO.out)
          ·have HE:=Z_ (Out.aH HT.out hp)
           have HC:=Z_ (HF.out.aU.then hC);clear hr hp hC hK' mM;go_wp2_with fail
           exact⟨rfl,gU.fails HC.out HE.out⟩
          ·exact hK'.out _ _ _ (by simp only [y0];rfl) trivial (jb HF.out hC hp hv hP (bZ.fM _ _ _ _ _ hp))
         ·obtain⟨v0,rfl⟩:=rE hm
          have y0:x 19=v0:=((D_ hd 3) 19 (by kernel_rfl) :);have hcl:∃ a b c d,v0=.agg #[a,b,c,d]:=by obtain⟨xn,ln,_,_,_,hx⟩:=hF;obtain⟨a,b,c,d,h,_⟩:=b_ hx;exact⟨a,b,c,d,h⟩
          obtain⟨a0,b0,c0,d0,rfl⟩:=hcl;have HF:=Z_ hF;clear hd hm hb hF;go_simp;exact hK'.out _ _ _ (by simp only [y0];rfl) trivial (fZ HF.out rfl)
         ·obtain⟨v0,v1,rfl⟩:=yP hm
          have y0:x 17=(.slice (some ⟨u10.heap.size,0,none⟩) 1 1):=(D_ hd 1 :);have y1:x 20=v1:=((D_ hd 4) 20 (by kernel_rfl) :);have hF2:=hF;obtain⟨xn,ln,hT1,aY,hfew,hx,gg,rfl,hgb,hgr⟩:=hF2;obtain⟨us,hu1,ho,hu3⟩:=aY.grow.ex;have hlt:=aY.lt;obtain⟨mg,mD,hz0,hz1,hz2⟩:=bD gK;refine wp_append_lies _ _ _ 22 rfl (N+1) 24 mg (.agg #[.int .i64 0,.string ⟨#[]⟩,.int .i64 0,.slice none 0 0]) 4 56 Tryz.underlying22 mD hz0 hz1 hz2 rfl (by decide) (.slice (some ⟨u10.heap.size,0,none⟩) 1 1) [x10].length (us.flatMap fun u=>u.cells.toList) y0 ho ⟨gg,0,none⟩ 1 1 v0.cells.toList y1 (by rw [Array.length_toList,gY hx]) ?_ (by obtain⟨a,b,c,d,e,e2,p1,p2,p3,p4⟩:=b_ hx;rw [e2];intro q hq;simp at hq;rcases hq with rfl|rfl|rfl|rfl<;>assumption) (by decide) (by unfold maxLen;omega) (by omega) (by omega) u.heap.size rfl ?_
          ·intro j q hj;have e:(⟨gg,0,none⟩:Addr).add j=⟨gg,j,none⟩:=(by unfold Addr.add;split<;>simp_all);rw [e,hgb.cell];simpa using hj
          ·intro g9 c9 w9 kQ kM mF yK
           exact hK'.out _ _ _ rfl trivial (push_append hF hu1 hu3 kQ kM mF)
         ·have HF:=Z_ hF;clear hd hm hb hF;go_simp;exact hK'.out _ _ _ rfl trivial ⟨rfl,HF.out⟩
         ·obtain⟨v0,v1,v2,rfl⟩:=F_ hm
          have y0:x 22=.pointer (some ⟨N,3,none⟩):=(D_ hd 6 :);have y1:x 21=v2:=((D_ hd 5) 21 (by kernel_rfl) :);have hF2:=hF;obtain⟨xn,ln,hT1,aY,gg,cc,rfl⟩:=hF2;have hc:=aY.nd.cell 3;have hf:=aY.nd.frozen 3;have hl:=aY.lt;simp at hc
          have HF:=Z_ hF;clear hd hm hb hF aY hT1;go_simp;exact hK'.out _ _ undef (by simp only [y0,y1];rfl) trivial (f_ HF.out)
        case xk=>
         intro x vs w9 hl hF hk;obtain⟨v0,v1,v2,v3,rfl⟩:=Gf hl
         obtain⟨xna,lna,hT1,nT⟩:=hF;clear hk hl;replace HT:=Z_ (Out.aI HT.out hT1.out);replace HB:=Z_ nT;replace az:=Z_ HB.out.at;clear hT1 nT;have HT0:=HT.out;clear HT;unfold nC at HT0;have HT:=Z_ HT0;clear HT0;have HN:=Z_ (dV (az.out.pr.alloc (.cells #[.string aW] 9)) w9.heap.size 1 aW ((aJ.made w9 #[.string aW] 9).cell 0));have h_:=(aB.refl (fun _=>False) w9).alloc (.cells #[.string aW] 9);replace HB:=Z_ (HB.out.extend h_);replace az:=Z_ HB.out.at;clear h_;go_wp2_with fail
         refine HN.out.mono ?_
         rintro e u13 hr;obtain⟨hC,⟨lb,hp,rfl⟩|⟨_,l13,_,hp,rfl,rfl,hP⟩⟩:=hr.cases (eX _ _)
         ·have HF:=Z_ (Out.aH HT.out hp)
          have HC:=Z_ (az.out.aU.then hC);clear hr hp hC;go_wp2_with fail
          exact⟨rfl,gU.fails HC.out HF.out⟩
         replace HT:=Z_ (Out.aI HT.out hp);have Xq:=Z_ (bZ.bz hp);replace HB:=Z_ (HB.out.call hC hP (by have:=bZ.bz hp;omega));replace az:=Z_ HB.out.at;clear hr hp hC hP HN;obtain⟨ra,rn,rc,hrow⟩:=HB.out.slice3
         first|subst hrow|clear hrow
         have c0:=HB.out.nd.cell 0;have c1:=HB.out.nd.cell 1;have c2:=HB.out.nd.cell 2;have c3:=HB.out.nd.cell 3;have r0:=HB.out.res.cell;have rf:=HB.out.res.frozen;have rl:=HB.out.res.lt;unfold cG at r0;simp at c0 c1 c2 c3
         go_wp2_with fail
         refine cO rfl rfl rfl ((((HB.out.res.set 0 _).set 1 _).set 2 _).set 3 _) Tryz.underlying24 rfl (by kernel_rfl) ?_
         exact HB.out.ret (by decide) (HT.out.symm) _ _ _ _
       | true=>
        have Xq:=Z_ (iY.out rfl);replace hP:bW W u8 S E l.tail:=by simpa using hP
        have HT0:=HT.out;clear HT;simp only [↓reduceIte] at HT0;have HT:=Z_ HT0;clear HT0;replace HB:=Z_ (HB.out.call hC hP (by have:=iY.out rfl;omega));replace az:=Z_ HB.out.at;clear hC hP HH iY;have jW:=HB.out.lt;obtain⟨B,hB⟩:∃ B,u8.heap.size=B:=⟨_,rfl⟩;rw [hB] at jW;have HN:=Z_ (ih n (Nat.le_refl _) (.expr) _ _ az.out.pr HM.out rfl trivial (Out.bI HT.out jO.out));go_wp2_with fail
        refine HN.out.mono ?_
        rintro e u14 hr;obtain⟨hC,⟨lb,hp,rfl⟩|⟨x14,Zh,v14,hp,rfl,hv,hP⟩⟩:=hr.cases (Out.bI HT.out jO.out)
        ·have HF:=Z_ (Out.aH HT.out hp)
         have HC:=Z_ (az.out.aU.then hC);clear hr hp hC;go_wp2_with fail
         exact⟨rfl,gU.fails HC.out HF.out⟩
        replace HT:=Z_ (Out.aI HT.out hp);have al7:=Z_ ((show _ from bZ.fM _ _ _ _ _ hp));replace HB:=Z_ (HB.out.call hC hP (by have:=bZ.fM _ _ _ _ _ hp;omega));replace az:=Z_ HB.out.at;obtain⟨al8,al9,al_,am0,am1,am2,rfl⟩:=dF hv;have am3:=Z_ hv;have Xr:u8.heap.size≤u14.heap.size:=hC.size;clear hr hp hC hP hv HN;rw [hB] at am3 Xr;have HG:=Z_ (qF am3.out (by omega:N+1≤B) Xr (c:=#[.int .i64 al8,.string al9,.int .i64 al_,.slice am0 am1 am2]) rfl);have h_:=(aB.refl (fun _=>False) u14).alloc (.cells #[.int .i64 al8,.string al9,.int .i64 al_,.slice am0 am1 am2] 24);replace HB:=Z_ (HB.out.extend h_);replace az:=Z_ HB.out.at;clear h_;go_wp2_with fail
        refine(fG _ _ _ _ _ _ _).mono ?_
        rintro e u15 ⟨rfl,hE⟩;replace HB:=Z_ (HB.out.extend hE);replace az:=Z_ HB.out.at;replace HG:=Z_ (HG.out.aU gJ hE (fun _ h=>h.elim));have n0:=HB.out.nd.cell;have nf:=HB.out.nd.frozen;have nl:=HB.out.nd.lt;go_upto_region 30 with (fail)
        replace HB:=Z_ (HB.out.put (kind:=14) (text:=⟨#[]⟩) (num:=0) HG.out (by simp only [List.length_singleton];have:=HLEN.out;have:=Xq.out;have:=al7.out;omega));replace az:=Z_ HB.out.at;clear n0 nf nl hE HG;generalize (((u15.setCell ⟨N,0,none⟩ (.int .i64 14)).setCell ⟨N,1,none⟩ (.string ⟨#[]⟩)).setCell ⟨N,2,none⟩ (.int .i64 0)).setCell ⟨N,3,none⟩ (.slice (some ⟨u14.heap.size,0,none⟩) 1 1)=v15 at *;have HT0:=HT.out;clear HT;unfold nC at HT0;have HT:=Z_ HT0;clear HT0;have HN:=Z_ (dV (az.out.pr.alloc (.cells #[.string aW] 9)) v15.heap.size 1 aW ((aJ.made v15 #[.string aW] 9).cell 0));have h_:=(aB.refl (fun _=>False) v15).alloc (.cells #[.string aW] 9);replace HB:=Z_ (HB.out.extend h_);replace az:=Z_ HB.out.at;clear h_;go_wp2_with fail
        refine HN.out.mono ?_
        rintro e u16 hr;obtain⟨hC,⟨lb,hp,rfl⟩|⟨_,l16,_,hp,rfl,rfl,hP⟩⟩:=hr.cases (eX _ _)
        ·have HF:=Z_ (Out.aH HT.out hp)
         have HC:=Z_ (az.out.aU.then hC);clear hr hp hC;go_wp2_with fail
         exact⟨rfl,gU.fails HC.out HF.out⟩
        replace HT:=Z_ (Out.aI HT.out hp);have az3:=Z_ (bZ.bz hp);replace HB:=Z_ (HB.out.call hC hP (by have:=bZ.bz hp;omega));replace az:=Z_ HB.out.at;clear hr hp hC hP HN;obtain⟨ra,rn,rc,hrow⟩:=HB.out.slice3
        first|subst hrow|clear hrow
        have c0:=HB.out.nd.cell 0;have c1:=HB.out.nd.cell 1;have c2:=HB.out.nd.cell 2;have c3:=HB.out.nd.cell 3;have r0:=HB.out.res.cell;have rf:=HB.out.res.frozen;have rl:=HB.out.res.lt;unfold cG at r0;simp at c0 c1 c2 c3
        go_wp2_with fail
        refine cO rfl rfl rfl ((((HB.out.res.set 0 _).set 1 _).set 2 _).set 3 _) Tryz.underlying24 rfl (by kernel_rfl) ?_
        exact HB.out.ret (by decide) (HT.out.symm) _ _ _ _
      | true=>
       have am4:=Z_ (iY.out rfl);replace hP:bW W u7 S E l.tail:=by simpa using hP
       have HT0:=HT.out;clear HT;simp only [↓reduceIte] at HT0;have HT:=Z_ HT0;clear HT0;replace HB:=Z_ (HB.out.call hC hP (by have:=iY.out rfl;omega));replace az:=Z_ HB.out.at;clear hC hP HH iY;have HN:=Z_ (cE az.out.pr);go_wp2_with fail
       refine HN.out.mono ?_
       rintro e u18 hr;obtain⟨hC,⟨lb,hp,rfl⟩|⟨b18,l18,v,hp,rfl,⟨rfl,hb0,hb1⟩,hP⟩⟩:=hr.cases (lM _)
       ·have HF:=Z_ (Out.aH HT.out hp)
        have HC:=Z_ (az.out.aU.then hC);clear hr hp hC;go_wp2_with fail
        exact⟨rfl,gU.fails HC.out HF.out⟩
       replace HT:=Z_ (Out.aI HT.out hp);have am5:=Z_ (bZ.fQ hp);replace HB:=Z_ (HB.out.call hC hP (by have:=bZ.fQ hp;omega));replace az:=Z_ HB.out.at;have Ji:=Z_ (And.intro hb0 hb1);clear hr hp hC hP HN;clear hb0 hb1;have HN:=Z_ (ni az.out.pr HM.out);go_wp2_with fail
       refine HN.out.mono ?_
       rintro e u19 hr;obtain⟨hC,⟨lb,hp,rfl⟩|⟨s19,l19,v,hp,rfl,⟨rfl,hs⟩,hP⟩⟩:=hr.cases (wC _)
       ·have HF:=Z_ (Out.aH HT.out hp)
        have HC:=Z_ (az.out.aU.then hC);clear hr hp hC;go_wp2_with fail
        exact⟨rfl,gU.fails HC.out HF.out⟩
       replace HT:=Z_ (Out.aI HT.out hp);have am6:=Z_ (bZ.jG hp);replace HB:=Z_ (HB.out.call hC hP (by have:=bZ.jG hp;omega));replace az:=Z_ HB.out.at;have qI:=Z_ hs;clear hr hp hC hP HN;clear hs;have jW:=HB.out.lt;obtain⟨B,hB⟩:∃ B,u19.heap.size=B:=⟨_,rfl⟩;rw [hB] at jW;have HN:=Z_ (ih n (Nat.le_refl _) (.place s19) _ _ az.out.pr HM.out rfl qI.out (Out.bI HT.out jO.out));go_wp2_with fail
       refine HN.out.mono ?_
       rintro e u20 hr;obtain⟨hC,⟨lb,hp,rfl⟩|⟨x20,l20,v20,hp,rfl,hv,hP⟩⟩:=hr.cases (Out.bI HT.out jO.out)
       ·have HF:=Z_ (Out.aH HT.out hp)
        have HC:=Z_ (az.out.aU.then hC);clear hr hp hC;go_wp2_with fail
        exact⟨rfl,gU.fails HC.out HF.out⟩
       replace HT:=Z_ (Out.aI HT.out hp);have am7:=Z_ ((show _ from bZ.fM _ _ _ _ _ hp));replace HB:=Z_ (HB.out.call hC hP (by have:=bZ.fM _ _ _ _ _ hp;omega));replace az:=Z_ HB.out.at;obtain⟨Zi,Zj,Zk,Zl,Zm,Zn,rfl⟩:=dF hv;have TN:=Z_ hv;have TP:u19.heap.size≤u20.heap.size:=hC.size;clear hr hp hC hP hv HN;rw [hB] at TN TP;have HG:=Z_ (qF TN.out (by omega:N+1≤B) TP (c:=#[.int .i64 Zi,.string Zj,.int .i64 Zk,.slice Zl Zm Zn]) rfl);have h_:=(aB.refl (fun _=>False) u20).alloc (.cells #[.int .i64 Zi,.string Zj,.int .i64 Zk,.slice Zl Zm Zn] 24);replace HB:=Z_ (HB.out.extend h_);replace az:=Z_ HB.out.at;clear h_;go_wp2_with fail
       refine(fG _ _ _ _ _ _ _).mono ?_
       rintro e u21 ⟨rfl,hE⟩;replace HB:=Z_ (HB.out.extend hE);replace az:=Z_ HB.out.at;replace HG:=Z_ (HG.out.aU gJ hE (fun _ h=>h.elim));have n0:=HB.out.nd.cell;have nf:=HB.out.nd.frozen;have nl:=HB.out.nd.lt;go_upto_region 30 with (fail)
       replace HB:=Z_ (HB.out.put (kind:=13) (text:=⟨#[]⟩) (num:=b18) HG.out (by simp only [List.length_singleton];have:=HLEN.out;have:=am4.out;have:=am5.out;have:=am6.out;have:=am7.out;omega));replace az:=Z_ HB.out.at;clear n0 nf nl hE HG;generalize (((u21.setCell ⟨N,0,none⟩ (.int .i64 13)).setCell ⟨N,1,none⟩ (.string ⟨#[]⟩)).setCell ⟨N,2,none⟩ (.int .i64 b18)).setCell ⟨N,3,none⟩ (.slice (some ⟨u20.heap.size,0,none⟩) 1 1)=v21 at *;have HT0:=HT.out;clear HT;unfold nC at HT0;have HT:=Z_ HT0;clear HT0;have HN:=Z_ (dV (az.out.pr.alloc (.cells #[.string aW] 9)) v21.heap.size 1 aW ((aJ.made v21 #[.string aW] 9).cell 0));have h_:=(aB.refl (fun _=>False) v21).alloc (.cells #[.string aW] 9);replace HB:=Z_ (HB.out.extend h_);replace az:=Z_ HB.out.at
       clear h_;go_wp2_with fail
       refine HN.out.mono ?_
       rintro e u22 hr;obtain⟨hC,⟨lb,hp,rfl⟩|⟨_,l22,_,hp,rfl,rfl,hP⟩⟩:=hr.cases (eX _ _)
       ·have HF:=Z_ (Out.aH HT.out hp)
        have HC:=Z_ (az.out.aU.then hC);clear hr hp hC;go_wp2_with fail
        exact⟨rfl,gU.fails HC.out HF.out⟩
       replace HT:=Z_ (Out.aI HT.out hp);have az4:=Z_ (bZ.bz hp);replace HB:=Z_ (HB.out.call hC hP (by have:=bZ.bz hp;omega));replace az:=Z_ HB.out.at;clear hr hp hC hP HN;obtain⟨ra,rn,rc,hrow⟩:=HB.out.slice3
       first|subst hrow|clear hrow
       have c0:=HB.out.nd.cell 0;have c1:=HB.out.nd.cell 1;have c2:=HB.out.nd.cell 2;have c3:=HB.out.nd.cell 3;have r0:=HB.out.res.cell;have rf:=HB.out.res.frozen;have rl:=HB.out.res.lt;unfold cG at r0;simp at c0 c1 c2 c3
       go_wp2_with fail
       refine cO rfl rfl rfl ((((HB.out.res.set 0 _).set 1 _).set 2 _).set 3 _) Tryz.underlying24 rfl (by kernel_rfl) ?_
       exact HB.out.ret (by decide) (HT.out.symm) _ _ _ _
     | true=>
      have am8:=Z_ (iY.out rfl);replace hP:bW W u6 S E l.tail:=by simpa using hP
      have HT0:=HT.out;clear HT;simp only [↓reduceIte] at HT0;have HT:=Z_ HT0;clear HT0;replace HB:=Z_ (HB.out.call hC hP (by have:=iY.out rfl;omega));replace az:=Z_ HB.out.at;clear hC hP HH iY;have HN:=Z_ (cE az.out.pr);go_wp2_with fail
      refine HN.out.mono ?_
      rintro e u24 hr;obtain⟨hC,⟨lb,hp,rfl⟩|⟨b24,l24,v,hp,rfl,⟨rfl,hb0,hb1⟩,hP⟩⟩:=hr.cases (lM _)
      ·have HF:=Z_ (Out.aH HT.out hp)
       have HC:=Z_ (az.out.aU.then hC);clear hr hp hC;go_wp2_with fail
       exact⟨rfl,gU.fails HC.out HF.out⟩
      replace HT:=Z_ (Out.aI HT.out hp);have am9:=Z_ (bZ.fQ hp);replace HB:=Z_ (HB.out.call hC hP (by have:=bZ.fQ hp;omega));replace az:=Z_ HB.out.at;have Ji:=Z_ (And.intro hb0 hb1);clear hr hp hC hP HN;clear hb0 hb1;have jW:=HB.out.lt;obtain⟨B,hB⟩:∃ B,u24.heap.size=B:=⟨_,rfl⟩;rw [hB] at jW;have HN:=Z_ (ih n (Nat.le_refl _) (.expr) _ _ az.out.pr HM.out rfl trivial (Out.bI HT.out jO.out));go_wp2_with fail
      refine HN.out.mono ?_
      rintro e u25 hr;obtain⟨hC,⟨lb,hp,rfl⟩|⟨x25,l25,v25,hp,rfl,hv,hP⟩⟩:=hr.cases (Out.bI HT.out jO.out)
      ·have HF:=Z_ (Out.aH HT.out hp)
       have HC:=Z_ (az.out.aU.then hC);clear hr hp hC;go_wp2_with fail
       exact⟨rfl,gU.fails HC.out HF.out⟩
      replace HT:=Z_ (Out.aI HT.out hp);have am_:=Z_ ((show _ from bZ.fM _ _ _ _ _ hp));replace HB:=Z_ (HB.out.call hC hP (by have:=bZ.fM _ _ _ _ _ hp;omega));replace az:=Z_ HB.out.at;obtain⟨an0,an1,an2,an3,an4,an5,rfl⟩:=dF hv;have an6:=Z_ hv;have Xt:u24.heap.size≤u25.heap.size:=hC.size;clear hr hp hC hP hv HN;rw [hB] at an6 Xt;have HG:=Z_ (qF an6.out (by omega:N+1≤B) Xt (c:=#[.int .i64 an0,.string an1,.int .i64 an2,.slice an3 an4 an5]) rfl);have h_:=(aB.refl (fun _=>False) u25).alloc (.cells #[.int .i64 an0,.string an1,.int .i64 an2,.slice an3 an4 an5] 24);replace HB:=Z_ (HB.out.extend h_);replace az:=Z_ HB.out.at;clear h_;go_wp2_with fail
      refine(fG _ _ _ _ _ _ _).mono ?_
      rintro e u26 ⟨rfl,hE⟩;replace HB:=Z_ (HB.out.extend hE);replace az:=Z_ HB.out.at;replace HG:=Z_ (HG.out.aU gJ hE (fun _ h=>h.elim));have n0:=HB.out.nd.cell;have nf:=HB.out.nd.frozen;have nl:=HB.out.nd.lt;go_upto_region 30 with (fail)
      replace HB:=Z_ (HB.out.put (kind:=12) (text:=⟨#[]⟩) (num:=b24) HG.out (by simp only [List.length_singleton];have:=HLEN.out;have:=am8.out;have:=am9.out;have:=am_.out;omega));replace az:=Z_ HB.out.at;clear n0 nf nl hE HG;generalize (((u26.setCell ⟨N,0,none⟩ (.int .i64 12)).setCell ⟨N,1,none⟩ (.string ⟨#[]⟩)).setCell ⟨N,2,none⟩ (.int .i64 b24)).setCell ⟨N,3,none⟩ (.slice (some ⟨u25.heap.size,0,none⟩) 1 1)=v26 at *;have HT0:=HT.out;clear HT;unfold nC at HT0;have HT:=Z_ HT0;clear HT0;have HN:=Z_ (dV (az.out.pr.alloc (.cells #[.string aW] 9)) v26.heap.size 1 aW ((aJ.made v26 #[.string aW] 9).cell 0));have h_:=(aB.refl (fun _=>False) v26).alloc (.cells #[.string aW] 9);replace HB:=Z_ (HB.out.extend h_);replace az:=Z_ HB.out.at;clear h_
      go_wp2_with fail
      refine HN.out.mono ?_
      rintro e u27 hr;obtain⟨hC,⟨lb,hp,rfl⟩|⟨_,l27,_,hp,rfl,rfl,hP⟩⟩:=hr.cases (eX _ _)
      ·have HF:=Z_ (Out.aH HT.out hp)
       have HC:=Z_ (az.out.aU.then hC);clear hr hp hC;go_wp2_with fail
       exact⟨rfl,gU.fails HC.out HF.out⟩
      replace HT:=Z_ (Out.aI HT.out hp);have az5:=Z_ (bZ.bz hp);replace HB:=Z_ (HB.out.call hC hP (by have:=bZ.bz hp;omega));replace az:=Z_ HB.out.at;clear hr hp hC hP HN;obtain⟨ra,rn,rc,hrow⟩:=HB.out.slice3
      first|subst hrow|clear hrow
      have c0:=HB.out.nd.cell 0;have c1:=HB.out.nd.cell 1;have c2:=HB.out.nd.cell 2;have c3:=HB.out.nd.cell 3;have r0:=HB.out.res.cell;have rf:=HB.out.res.frozen;have rl:=HB.out.res.lt;unfold cG at r0;simp at c0 c1 c2 c3
      go_wp2_with fail
      refine cO rfl rfl rfl ((((HB.out.res.set 0 _).set 1 _).set 2 _).set 3 _) Tryz.underlying24 rfl (by kernel_rfl) ?_
      exact HB.out.ret (by decide) (HT.out.symm) _ _ _ _
    | true=>
     have an7:=Z_ (iY.out rfl);replace hP:bW W u5 S E l.tail:=by simpa using hP
     have HT0:=HT.out;clear HT;simp only [↓reduceIte] at HT0;have HT:=Z_ HT0;clear HT0;replace HB:=Z_ (HB.out.call hC hP (by have:=iY.out rfl;omega));replace az:=Z_ HB.out.at;clear hC hP HH iY;have jW:=HB.out.lt;obtain⟨B,hB⟩:∃ B,u5.heap.size=B:=⟨_,rfl⟩;rw [hB] at jW;have HN:=Z_ (ih n (Nat.le_refl _) (.asked) _ _ az.out.pr HM.out rfl trivial (Out.bI HT.out jO.out));go_wp2_with fail
     refine HN.out.mono ?_
     rintro e u29 hr;obtain⟨hC,⟨lb,hp,rfl⟩|⟨x29,l29,v29,hp,rfl,hv,hP⟩⟩:=hr.cases (Out.bI HT.out jO.out)
     ·have HF:=Z_ (Out.aH HT.out hp)
      have HC:=Z_ (az.out.aU.then hC);clear hr hp hC;go_wp2_with fail
      exact⟨rfl,gU.fails HC.out HF.out⟩
     replace HT:=Z_ (Out.aI HT.out hp);have an8:=Z_ ((show _ from bZ.fM _ _ _ _ _ hp));replace HB:=Z_ (HB.out.call hC hP (by have:=bZ.fM _ _ _ _ _ hp;omega));replace az:=Z_ HB.out.at;obtain⟨an9,an_,ao0,ao1,ao2,ao3,rfl⟩:=dF hv;have ao4:=Z_ hv;have Xu:u5.heap.size≤u29.heap.size:=hC.size;clear hr hp hC hP hv HN;rw [hB] at ao4 Xu;have HG:=Z_ (qF ao4.out (by omega:N+1≤B) Xu (c:=#[.int .i64 an9,.string an_,.int .i64 ao0,.slice ao1 ao2 ao3]) rfl);have h_:=(aB.refl (fun _=>False) u29).alloc (.cells #[.int .i64 an9,.string an_,.int .i64 ao0,.slice ao1 ao2 ao3] 24);replace HB:=Z_ (HB.out.extend h_);replace az:=Z_ HB.out.at;clear h_;go_wp2_with fail
     refine(fG _ _ _ _ _ _ _).mono ?_
     rintro e u30 ⟨rfl,hE⟩;replace HB:=Z_ (HB.out.extend hE);replace az:=Z_ HB.out.at;replace HG:=Z_ (HG.out.aU gJ hE (fun _ h=>h.elim));have n0:=HB.out.nd.cell;have nf:=HB.out.nd.frozen;have nl:=HB.out.nd.lt;go_upto_region 20 with (fail)
     replace HB:=Z_ (HB.out.put (kind:=11) (text:=⟨#[]⟩) (num:=0) HG.out (by simp only [List.length_singleton];have:=HLEN.out;have:=an7.out;have:=an8.out;omega));replace az:=Z_ HB.out.at;clear n0 nf nl hE HG;generalize (((u30.setCell ⟨N,0,none⟩ (.int .i64 11)).setCell ⟨N,1,none⟩ (.string ⟨#[]⟩)).setCell ⟨N,2,none⟩ (.int .i64 0)).setCell ⟨N,3,none⟩ (.slice (some ⟨u29.heap.size,0,none⟩) 1 1)=v30 at *;go_upto_region 20 with (fail)
     refine aj [3,4,5,7] (fun i v _=>v=([.pointer (some ⟨N,3,none⟩),(.slice (some ⟨u29.heap.size,0,none⟩) 1 1),.pointer (some ⟨S,0,none⟩),undef,undef,undef,.pointer (some ⟨N,3,none⟩),undef]:List Value).getD i undef) (iM W w S E A N l29 11 ⟨#[]⟩ 0 (.slice (some ⟨u29.heap.size,0,none⟩) 1 1) [x29] (bn n .block l29)) (fun _ _=>True) (frame:=?JH) (fun x=>?wX) mixed (by kernel_rfl) (by kernel_rfl) (fun _ _ _ _ h _=>h) ?JI ?JJ ?wY
     case wX=>
      simp only [chain.aS,chain.fill,chain.bT,chain.bC,oV,oW,oZ,o5,o6,o7,o8,o_,pq];exact rfl
     case JI=>exact HB.out.extend (aB.refl _ _).drew
     case JJ=>
      iterate 8 (refine ak.cons (fun x vs u hF hm hb hd K' hK'=>?_) ?_;rotate_left)
      exact ak.nil
      ·have HF:=Z_ hF;clear hd hm hb hF;go_simp;exact hK'.out _ _ _ rfl trivial ⟨rfl,HF.out⟩
      ·have y0:x 83=.pointer (some ⟨N,3,none⟩):=(D_ hd 0 :);have hc:=hF.cell (by have:=hb 2 _ (by decide) rfl (by kernel_rfl);omega);have HF:=Z_ hF;clear hd hm hb hF;go_simp;exact hK'.out _ _ _ (by simp only [y0];rfl) trivial ⟨rfl,HF.out⟩
      ·have HF:=Z_ hF;clear hd hm hb hF;go_simp;exact hK'.out _ _ _ rfl trivial ⟨rfl,HF.out⟩
      ·have y0:x 85=.pointer (some ⟨S,0,none⟩):=(D_ hd 2 :);obtain rfl:=pR hm;have HF:=Z_ (show lD _ _ _ _ _ _ _ _ _ _ _ _ _ _ from hF);clear hd hm hb hF;have mM:=Z_ (ih n (Nat.le_refl _) .block _ _ HF.out.pr HM.out rfl trivial (Out.bI HT.out jO.out));go_simp;refine mM.out.mono ?_
       rintro e u2 hr;obtain⟨hC,⟨lb,hp,rfl⟩|⟨xn,ln,v,hp,rfl,hv,hP⟩⟩:=hr.cases (Out.bI HT.out jO.out)
       ·have HE:=Z_ (Out.aH HT.out hp)
        have HC:=Z_ (HF.out.aU.then hC);clear hr hp hC hK' mM;go_wp2_with fail
        exact⟨rfl,gU.fails HC.out HE.out⟩
       ·exact hK'.out _ _ _ (by simp only [y0];rfl) trivial (jb HF.out hC hp hv hP (bZ.fM _ _ _ _ _ hp))
      ·obtain⟨v0,rfl⟩:=rE hm
       have y0:x 86=v0:=((D_ hd 3) 86 (by kernel_rfl) :);have hcl:∃ a b c d,v0=.agg #[a,b,c,d]:=by obtain⟨xn,ln,_,_,_,hx⟩:=hF;obtain⟨a,b,c,d,h,_⟩:=b_ hx;exact⟨a,b,c,d,h⟩
       obtain⟨a0,b0,c0,d0,rfl⟩:=hcl;have HF:=Z_ hF;clear hd hm hb hF;go_simp;exact hK'.out _ _ _ (by simp only [y0];rfl) trivial (fZ HF.out rfl)
      ·obtain⟨v0,v1,rfl⟩:=yP hm
       have y0:x 84=(.slice (some ⟨u29.heap.size,0,none⟩) 1 1):=(D_ hd 1 :);have y1:x 87=v1:=((D_ hd 4) 87 (by kernel_rfl) :);have hF2:=hF;obtain⟨xn,ln,hT1,aY,hfew,hx,gg,rfl,hgb,hgr⟩:=hF2;obtain⟨us,hu1,ho,hu3⟩:=aY.grow.ex;have hlt:=aY.lt;obtain⟨mg,mD,hz0,hz1,hz2⟩:=bD gK;refine wp_append_lies _ _ _ 22 rfl (N+1) 24 mg (.agg #[.int .i64 0,.string ⟨#[]⟩,.int .i64 0,.slice none 0 0]) 4 56 Tryz.underlying22 mD hz0 hz1 hz2 rfl (by decide) (.slice (some ⟨u29.heap.size,0,none⟩) 1 1) [x29].length (us.flatMap fun u=>u.cells.toList) y0 ho ⟨gg,0,none⟩ 1 1 v0.cells.toList y1 (by rw [Array.length_toList,gY hx]) ?_ (by obtain⟨a,b,c,d,e,e2,p1,p2,p3,p4⟩:=b_ hx;rw [e2];intro q hq;simp at hq;rcases hq with rfl|rfl|rfl|rfl<;>assumption) (by decide) (by unfold maxLen;omega) (by omega) (by omega) u.heap.size rfl ?_
       ·intro j q hj;have e:(⟨gg,0,none⟩:Addr).add j=⟨gg,j,none⟩:=(by unfold Addr.add;split<;>simp_all);rw [e,hgb.cell];simpa using hj
       ·intro g9 c9 w9 kQ kM mF yK
        exact hK'.out _ _ _ rfl trivial (push_append hF hu1 hu3 kQ kM mF)
      ·have HF:=Z_ hF;clear hd hm hb hF;go_simp;exact hK'.out _ _ _ rfl trivial ⟨rfl,HF.out⟩
      ·obtain⟨v0,v1,v2,rfl⟩:=F_ hm
       have y0:x 89=.pointer (some ⟨N,3,none⟩):=(D_ hd 6 :);have y1:x 88=v2:=((D_ hd 5) 88 (by kernel_rfl) :);have hF2:=hF;obtain⟨xn,ln,hT1,aY,gg,cc,rfl⟩:=hF2;have hc:=aY.nd.cell 3;have hf:=aY.nd.frozen 3;have hl:=aY.lt;simp at hc
       have HF:=Z_ hF;clear hd hm hb hF aY hT1;go_simp;exact hK'.out _ _ undef (by simp only [y0,y1];rfl) trivial (f_ HF.out)
     case wY=>
      intro x vs w9 hl hF hk;obtain⟨v0,v1,v2,v3,rfl⟩:=Gf hl
      obtain⟨xnb,lnb,hT1,nT⟩:=hF;clear hk hl;replace HT:=Z_ (Out.aI HT.out hT1.out);replace HB:=Z_ nT;replace az:=Z_ HB.out.at;clear hT1 nT;obtain⟨ra,rn,rc,hrow⟩:=HB.out.slice3
      first|subst hrow|clear hrow
      have c0:=HB.out.nd.cell 0;have c1:=HB.out.nd.cell 1;have c2:=HB.out.nd.cell 2;have c3:=HB.out.nd.cell 3;have r0:=HB.out.res.cell;have rf:=HB.out.res.frozen;have rl:=HB.out.res.lt;unfold cG at r0;simp at c0 c1 c2 c3
      go_wp2_with fail
      refine cO rfl rfl rfl ((((HB.out.res.set 0 _).set 1 _).set 2 _).set 3 _) Tryz.underlying24 rfl (by kernel_rfl) ?_
      exact HB.out.ret (by decide) (HT.out.symm) _ _ _ _
   | true=>
    have ao5:=Z_ (iY.out rfl);replace hP:bW W u4 S E l.tail:=by simpa using hP
    have HT0:=HT.out;clear HT;simp only [↓reduceIte] at HT0;have HT:=Z_ HT0;clear HT0;replace HB:=Z_ (HB.out.call hC hP (by have:=iY.out rfl;omega));replace az:=Z_ HB.out.at;clear hC hP HH iY;have jW:=HB.out.lt;obtain⟨B,hB⟩:∃ B,u4.heap.size=B:=⟨_,rfl⟩;rw [hB] at jW;have HN:=Z_ (ih n (Nat.le_refl _) (.asked) _ _ az.out.pr HM.out rfl trivial (Out.bI HT.out jO.out));go_wp2_with fail
    refine HN.out.mono ?_
    rintro e u32 hr;obtain⟨hC,⟨lb,hp,rfl⟩|⟨x32,l32,v32,hp,rfl,hv,hP⟩⟩:=hr.cases (Out.bI HT.out jO.out)
    ·have HF:=Z_ (Out.aH HT.out hp)
     have HC:=Z_ (az.out.aU.then hC);clear hr hp hC;go_wp2_with fail
     exact⟨rfl,gU.fails HC.out HF.out⟩
    replace HT:=Z_ (Out.aI HT.out hp);have ao6:=Z_ ((show _ from bZ.fM _ _ _ _ _ hp));replace HB:=Z_ (HB.out.call hC hP (by have:=bZ.fM _ _ _ _ _ hp;omega));replace az:=Z_ HB.out.at;obtain⟨ao7,ao8,ao9,ao_,ap0,ap1,rfl⟩:=dF hv;have ap2:=Z_ hv;have Xv:u4.heap.size≤u32.heap.size:=hC.size;clear hr hp hC hP hv HN;rw [hB] at ap2 Xv;have HG:=Z_ (qF ap2.out (by omega:N+1≤B) Xv (c:=#[.int .i64 ao7,.string ao8,.int .i64 ao9,.slice ao_ ap0 ap1]) rfl);have h_:=(aB.refl (fun _=>False) u32).alloc (.cells #[.int .i64 ao7,.string ao8,.int .i64 ao9,.slice ao_ ap0 ap1] 24);replace HB:=Z_ (HB.out.extend h_);replace az:=Z_ HB.out.at;clear h_;go_wp2_with fail
    refine(fG _ _ _ _ _ _ _).mono ?_
    rintro e u33 ⟨rfl,hE⟩;replace HB:=Z_ (HB.out.extend hE);replace az:=Z_ HB.out.at;replace HG:=Z_ (HG.out.aU gJ hE (fun _ h=>h.elim));have n0:=HB.out.nd.cell;have nf:=HB.out.nd.frozen;have nl:=HB.out.nd.lt;go_upto_region 14 with (fail)
    replace HB:=Z_ (HB.out.put (kind:=10) (text:=⟨#[]⟩) (num:=0) HG.out (by simp only [List.length_singleton];have:=HLEN.out;have:=ao5.out;have:=ao6.out;omega));replace az:=Z_ HB.out.at;clear n0 nf nl hE HG;generalize (((u33.setCell ⟨N,0,none⟩ (.int .i64 10)).setCell ⟨N,1,none⟩ (.string ⟨#[]⟩)).setCell ⟨N,2,none⟩ (.int .i64 0)).setCell ⟨N,3,none⟩ (.slice (some ⟨u32.heap.size,0,none⟩) 1 1)=v33 at *;go_upto_region 14 with (fail)
    refine aj [3,4,5,7] (fun i v _=>v=([.pointer (some ⟨N,3,none⟩),(.slice (some ⟨u32.heap.size,0,none⟩) 1 1),.pointer (some ⟨S,0,none⟩),undef,undef,undef,.pointer (some ⟨N,3,none⟩),undef]:List Value).getD i undef) (iM W w S E A N l32 10 ⟨#[]⟩ 0 (.slice (some ⟨u32.heap.size,0,none⟩) 1 1) [x32] (bn n .block l32)) (fun _ _=>True) (frame:=?UJ) (fun x=>?zV) mixed (by kernel_rfl) (by kernel_rfl) (fun _ _ _ _ h _=>h) ?h0c ?UK ?EU
    case zV=>
     simp only [chain.aS,chain.fill,chain.bT,chain.bC,oV,oW,oZ,o5,o6,o7,o8,o_,pq];exact rfl
    case h0c=>exact HB.out.extend (aB.refl _ _).drew
    case UK=>
     iterate 8 (refine ak.cons (fun x vs u hF hm hb hd K' hK'=>?_) ?_;rotate_left)
     exact ak.nil
     ·have HF:=Z_ hF;clear hd hm hb hF;go_simp;exact hK'.out _ _ _ rfl trivial ⟨rfl,HF.out⟩
     ·have y0:x 59=.pointer (some ⟨N,3,none⟩):=(D_ hd 0 :);have hc:=hF.cell (by have:=hb 2 _ (by decide) rfl (by kernel_rfl);omega);have HF:=Z_ hF;clear hd hm hb hF;go_simp;exact hK'.out _ _ _ (by simp only [y0];rfl) trivial ⟨rfl,HF.out⟩
     ·have HF:=Z_ hF;clear hd hm hb hF;go_simp;exact hK'.out _ _ _ rfl trivial ⟨rfl,HF.out⟩
     ·have y0:x 61=.pointer (some ⟨S,0,none⟩):=(D_ hd 2 :);obtain rfl:=pR hm;have HF:=Z_ (show lD _ _ _ _ _ _ _ _ _ _ _ _ _ _ from hF);clear hd hm hb hF;have mM:=Z_ (ih n (Nat.le_refl _) .block _ _ HF.out.pr HM.out rfl trivial (Out.bI HT.out jO.out));go_simp;refine mM.out.mono ?_
      rintro e u2 hr;obtain⟨hC,⟨lb,hp,rfl⟩|⟨xn,ln,v,hp,rfl,hv,hP⟩⟩:=hr.cases (Out.bI HT.out jO.out)
      ·have HE:=Z_ (Out.aH HT.out hp)
       have HC:=Z_ (HF.out.aU.then hC);clear hr hp hC hK' mM;go_wp2_with fail
       exact⟨rfl,gU.fails HC.out HE.out⟩
      ·exact hK'.out _ _ _ (by simp only [y0];rfl) trivial (jb HF.out hC hp hv hP (bZ.fM _ _ _ _ _ hp))
     ·obtain⟨v0,rfl⟩:=rE hm
      have y0:x 62=v0:=((D_ hd 3) 62 (by kernel_rfl) :);have hcl:∃ a b c d,v0=.agg #[a,b,c,d]:=by obtain⟨xn,ln,_,_,_,hx⟩:=hF;obtain⟨a,b,c,d,h,_⟩:=b_ hx;exact⟨a,b,c,d,h⟩
      obtain⟨a0,b0,c0,d0,rfl⟩:=hcl;have HF:=Z_ hF;clear hd hm hb hF;go_simp;exact hK'.out _ _ _ (by simp only [y0];rfl) trivial (fZ HF.out rfl)
     ·obtain⟨v0,v1,rfl⟩:=yP hm
      have y0:x 60=(.slice (some ⟨u32.heap.size,0,none⟩) 1 1):=(D_ hd 1 :);have y1:x 63=v1:=((D_ hd 4) 63 (by kernel_rfl) :);have hF2:=hF;obtain⟨xn,ln,hT1,aY,hfew,hx,gg,rfl,hgb,hgr⟩:=hF2;obtain⟨us,hu1,ho,hu3⟩:=aY.grow.ex;have hlt:=aY.lt;obtain⟨mg,mD,hz0,hz1,hz2⟩:=bD gK;refine wp_append_lies _ _ _ 22 rfl (N+1) 24 mg (.agg #[.int .i64 0,.string ⟨#[]⟩,.int .i64 0,.slice none 0 0]) 4 56 Tryz.underlying22 mD hz0 hz1 hz2 rfl (by decide) (.slice (some ⟨u32.heap.size,0,none⟩) 1 1) [x32].length (us.flatMap fun u=>u.cells.toList) y0 ho ⟨gg,0,none⟩ 1 1 v0.cells.toList y1 (by rw [Array.length_toList,gY hx]) ?_ (by obtain⟨a,b,c,d,e,e2,p1,p2,p3,p4⟩:=b_ hx;rw [e2];intro q hq;simp at hq;rcases hq with rfl|rfl|rfl|rfl<;>assumption) (by decide) (by unfold maxLen;omega) (by omega) (by omega) u.heap.size rfl ?_
      ·intro j q hj;have e:(⟨gg,0,none⟩:Addr).add j=⟨gg,j,none⟩:=(by unfold Addr.add;split<;>simp_all);rw [e,hgb.cell];simpa using hj
      ·intro g9 c9 w9 kQ kM mF yK
       exact hK'.out _ _ _ rfl trivial (push_append hF hu1 hu3 kQ kM mF)
     ·have HF:=Z_ hF;clear hd hm hb hF;go_simp;exact hK'.out _ _ _ rfl trivial ⟨rfl,HF.out⟩
     ·obtain⟨v0,v1,v2,rfl⟩:=F_ hm
      have y0:x 65=.pointer (some ⟨N,3,none⟩):=(D_ hd 6 :);have y1:x 64=v2:=((D_ hd 5) 64 (by kernel_rfl) :);have hF2:=hF;obtain⟨xn,ln,hT1,aY,gg,cc,rfl⟩:=hF2;have hc:=aY.nd.cell 3;have hf:=aY.nd.frozen 3;have hl:=aY.lt;simp at hc
      have HF:=Z_ hF;clear hd hm hb hF aY hT1;go_simp;exact hK'.out _ _ undef (by simp only [y0,y1];rfl) trivial (f_ HF.out)
    case EU=>
     intro x vs w9 hl hF hk;obtain⟨v0,v1,v2,v3,rfl⟩:=Gf hl
     obtain⟨xnc,KY,hT1,nT⟩:=hF;clear hk hl;replace HT:=Z_ (Out.aI HT.out hT1.out);replace HB:=Z_ nT;replace az:=Z_ HB.out.at;clear hT1 nT;have HH:=Z_ (eP az.out.pr nI);have iY:=Z_ (fun (h:eY KY [nI]=true)=>bZ.bg h);generalize eY KY [nI]=R at *;go_wp2_with fail
     refine HH.out.mono ?_
     rintro e u34 ⟨rfl,hC,hP⟩;cases R with
     | false=>
      replace hP:bW W u34 S E KY:=by simpa using hP
      have HT0:=HT.out;clear HT;simp only [Bool.false_eq_true,↓reduceIte] at HT0;have HT:=Z_ HT0;clear HT0;replace HB:=Z_ (HB.out.call hC hP (Nat.le_refl _));replace az:=Z_ HB.out.at;clear hC hP HH iY;obtain⟨ra,rn,rc,hrow⟩:=HB.out.slice3
      first|subst hrow|clear hrow
      have c0:=HB.out.nd.cell 0;have c1:=HB.out.nd.cell 1;have c2:=HB.out.nd.cell 2;have c3:=HB.out.nd.cell 3;have r0:=HB.out.res.cell;have rf:=HB.out.res.frozen;have rl:=HB.out.res.lt;unfold cG at r0;simp at c0 c1 c2 c3
      go_wp2_with fail
      refine cO rfl rfl rfl ((((HB.out.res.set 0 _).set 1 _).set 2 _).set 3 _) Tryz.underlying24 rfl (by kernel_rfl) ?_
      exact HB.out.ret (by decide) (HT.out.symm) _ _ _ _
     | true=>
      have Xw:=Z_ (iY.out rfl);replace hP:bW W u34 S E KY.tail:=by simpa using hP
      have HT0:=HT.out;clear HT;simp only [↓reduceIte] at HT0;have HT:=Z_ HT0;clear HT0;replace HB:=Z_ (HB.out.call hC hP (by have:=iY.out rfl;omega));replace az:=Z_ HB.out.at;clear hC hP HH iY;go_upto_region 16 with (fail)
      refine aj [3,4,5,7] (fun i v _=>v=([.pointer (some ⟨N,3,none⟩),v2,.pointer (some ⟨S,0,none⟩),undef,undef,undef,.pointer (some ⟨N,3,none⟩),undef]:List Value).getD i undef) (iM W w S E A N KY.tail 10 ⟨#[]⟩ 0 v2 ([x32] ++ [xnc]) (bn n .block KY.tail)) (fun _ _=>True) (frame:=?ad7) (fun x=>?Ri) mixed (by kernel_rfl) (by kernel_rfl) (fun _ _ _ _ h _=>h) ?h0d ?std ?find
      case Ri=>
       simp only [chain.aS,chain.fill,chain.bT,chain.bC,oV,oW,oZ,o5,o6,o7,o8,o_,pq];exact rfl
      case h0d=>exact HB.out.extend (aB.refl _ _).drew
      case std=>
       iterate 8 (refine ak.cons (fun x vs u hF hm hb hd K' hK'=>?_) ?_;rotate_left)
       exact ak.nil
       ·have HF:=Z_ hF;clear hd hm hb hF;go_simp;exact hK'.out _ _ _ rfl trivial ⟨rfl,HF.out⟩
       ·have y0:x 68=.pointer (some ⟨N,3,none⟩):=(D_ hd 0 :);have hc:=hF.cell (by have:=hb 2 _ (by decide) rfl (by kernel_rfl);omega);have HF:=Z_ hF;clear hd hm hb hF;go_simp;exact hK'.out _ _ _ (by simp only [y0];rfl) trivial ⟨rfl,HF.out⟩
       ·have HF:=Z_ hF;clear hd hm hb hF;go_simp;exact hK'.out _ _ _ rfl trivial ⟨rfl,HF.out⟩
       ·have y0:x 70=.pointer (some ⟨S,0,none⟩):=(D_ hd 2 :);obtain rfl:=pR hm;have HF:=Z_ (show lD _ _ _ _ _ _ _ _ _ _ _ _ _ _ from hF);clear hd hm hb hF;have mM:=Z_ (ih n (Nat.le_refl _) .block _ _ HF.out.pr HM.out rfl trivial (Out.bI HT.out jO.out));go_simp;refine mM.out.mono ?_
        rintro e u2 hr;obtain⟨hC,⟨lb,hp,rfl⟩|⟨xn,ln,v,hp,rfl,hv,hP⟩⟩:=hr.cases (Out.bI HT.out jO.out)
        ·have HE:=Z_ (Out.aH HT.out hp)
         have HC:=Z_ (HF.out.aU.then hC);clear hr hp hC hK' mM;go_wp2_with fail
         exact⟨rfl,gU.fails HC.out HE.out⟩
        ·exact hK'.out _ _ _ (by simp only [y0];rfl) trivial (jb HF.out hC hp hv hP (bZ.fM _ _ _ _ _ hp))
       ·obtain⟨v0,rfl⟩:=rE hm
        have y0:x 71=v0:=((D_ hd 3) 71 (by kernel_rfl) :);have hcl:∃ a b c d,v0=.agg #[a,b,c,d]:=by obtain⟨xn,ln,_,_,_,hx⟩:=hF;obtain⟨a,b,c,d,h,_⟩:=b_ hx;exact⟨a,b,c,d,h⟩
        obtain⟨a0,b0,c0,d0,rfl⟩:=hcl;have HF:=Z_ hF;clear hd hm hb hF;go_simp;exact hK'.out _ _ _ (by simp only [y0];rfl) trivial (fZ HF.out rfl)
       ·obtain⟨v0,v1,rfl⟩:=yP hm
        have y0:x 69=v2:=(D_ hd 1 :);have y1:x 72=v1:=((D_ hd 4) 72 (by kernel_rfl) :);have hF2:=hF;obtain⟨xn,ln,hT1,aY,hfew,hx,gg,rfl,hgb,hgr⟩:=hF2;obtain⟨us,hu1,ho,hu3⟩:=aY.grow.ex;have hlt:=aY.lt;obtain⟨mg,mD,hz0,hz1,hz2⟩:=bD gK;refine wp_append_lies _ _ _ 22 rfl (N+1) 24 mg (.agg #[.int .i64 0,.string ⟨#[]⟩,.int .i64 0,.slice none 0 0]) 4 56 Tryz.underlying22 mD hz0 hz1 hz2 rfl (by decide) v2 ([x32] ++ [xnc]).length (us.flatMap fun u=>u.cells.toList) y0 ho ⟨gg,0,none⟩ 1 1 v0.cells.toList y1 (by rw [Array.length_toList,gY hx]) ?_ (by obtain⟨a,b,c,d,e,e2,p1,p2,p3,p4⟩:=b_ hx;rw [e2];intro q hq;simp at hq;rcases hq with rfl|rfl|rfl|rfl<;>assumption) (by decide) (by unfold maxLen;omega) (by omega) (by omega) u.heap.size rfl ?_
        ·intro j q hj;have e:(⟨gg,0,none⟩:Addr).add j=⟨gg,j,none⟩:=(by unfold Addr.add;split<;>simp_all);rw [e,hgb.cell];simpa using hj
        ·intro g9 c9 w9 kQ kM mF yK
         exact hK'.out _ _ _ rfl trivial (push_append hF hu1 hu3 kQ kM mF)
       ·have HF:=Z_ hF;clear hd hm hb hF;go_simp;exact hK'.out _ _ _ rfl trivial ⟨rfl,HF.out⟩
       ·obtain⟨v0,v1,v2,rfl⟩:=F_ hm
        have y0:x 74=.pointer (some ⟨N,3,none⟩):=(D_ hd 6 :);have y1:x 73=v2:=((D_ hd 5) 73 (by kernel_rfl) :);have hF2:=hF;obtain⟨xn,ln,hT1,aY,gg,cc,rfl⟩:=hF2;have hc:=aY.nd.cell 3;have hf:=aY.nd.frozen 3;have hl:=aY.lt;simp at hc
        have HF:=Z_ hF;clear hd hm hb hF aY hT1;go_simp;exact hK'.out _ _ undef (by simp only [y0,y1];rfl) trivial (f_ HF.out)
      case find=>
       intro x vs w9 hl hF hk;obtain⟨v0,v1,v2,v3,rfl⟩:=Gf hl
       obtain⟨xnd,lnd,hT1,nT⟩:=hF;clear hk hl;replace HT:=Z_ (Out.aI HT.out hT1.out);replace HB:=Z_ nT;replace az:=Z_ HB.out.at;clear hT1 nT;obtain⟨ra,rn,rc,hrow⟩:=HB.out.slice3
       first|subst hrow|clear hrow
       have c0:=HB.out.nd.cell 0;have c1:=HB.out.nd.cell 1;have c2:=HB.out.nd.cell 2;have c3:=HB.out.nd.cell 3;have r0:=HB.out.res.cell;have rf:=HB.out.res.frozen;have rl:=HB.out.res.lt;unfold cG at r0;simp at c0 c1 c2 c3
       go_wp2_with fail
       refine cO rfl rfl rfl ((((HB.out.res.set 0 _).set 1 _).set 2 _).set 3 _) Tryz.underlying24 rfl (by kernel_rfl) ?_
       exact HB.out.ret (by decide) (HT.out.symm) _ _ _ _
  | true=>
   have ap3:=Z_ (iY.out rfl);replace hP:bW W u3 S E l.tail:=by simpa using hP
   have HT0:=HT.out;clear HT;simp only [↓reduceIte] at HT0;have HT:=Z_ HT0;clear HT0;replace HB:=Z_ (HB.out.call hC hP (by have:=iY.out rfl;omega));replace az:=Z_ HB.out.at;clear hC hP HH iY;have HN:=Z_ (ni az.out.pr HM.out);go_wp2_with fail
   refine HN.out.mono ?_
   rintro e u35 hr;obtain⟨hC,⟨lb,hp,rfl⟩|⟨s35,l35,v,hp,rfl,⟨rfl,hs⟩,hP⟩⟩:=hr.cases (wC _)
   ·have HF:=Z_ (Out.aH HT.out hp)
    have HC:=Z_ (az.out.aU.then hC);clear hr hp hC;go_wp2_with fail
    exact⟨rfl,gU.fails HC.out HF.out⟩
   replace HT:=Z_ (Out.aI HT.out hp);have Xw:=Z_ (bZ.jG hp);replace HB:=Z_ (HB.out.call hC hP (by have:=bZ.jG hp;omega));replace az:=Z_ HB.out.at;have qI:=Z_ hs;clear hr hp hC hP HN;clear hs;have jW:=HB.out.lt;obtain⟨B,hB⟩:∃ B,u35.heap.size=B:=⟨_,rfl⟩;rw [hB] at jW;have HN:=Z_ (ih n (Nat.le_refl _) (.call s35) _ _ az.out.pr HM.out rfl qI.out (Out.bI HT.out jO.out));go_wp2_with fail
   refine HN.out.mono ?_
   rintro e u36 hr;obtain⟨hC,⟨lb,hp,rfl⟩|⟨x36,l36,v36,hp,rfl,hv,hP⟩⟩:=hr.cases (Out.bI HT.out jO.out)
   ·have HF:=Z_ (Out.aH HT.out hp)
    have HC:=Z_ (az.out.aU.then hC);clear hr hp hC;go_wp2_with fail
    exact⟨rfl,gU.fails HC.out HF.out⟩
   replace HT:=Z_ (Out.aI HT.out hp);have ap4:=Z_ ((show _ from bZ.fM _ _ _ _ _ hp));replace HB:=Z_ (HB.out.call hC hP (by have:=bZ.fM _ _ _ _ _ hp;omega));replace az:=Z_ HB.out.at;obtain⟨ap5,ap6,ap7,ap8,ap9,ap_,rfl⟩:=dF hv;have aq0:=Z_ hv;have Xx:u35.heap.size≤u36.heap.size:=hC.size;clear hr hp hC hP hv HN;rw [hB] at aq0 Xx;have HG:=Z_ (qF aq0.out (by omega:N+1≤B) Xx (c:=#[.int .i64 ap5,.string ap6,.int .i64 ap7,.slice ap8 ap9 ap_]) rfl);have h_:=(aB.refl (fun _=>False) u36).alloc (.cells #[.int .i64 ap5,.string ap6,.int .i64 ap7,.slice ap8 ap9 ap_] 24);replace HB:=Z_ (HB.out.extend h_);replace az:=Z_ HB.out.at;clear h_;go_wp2_with fail
   refine(fG _ _ _ _ _ _ _).mono ?_
   rintro e u37 ⟨rfl,hE⟩;replace HB:=Z_ (HB.out.extend hE);replace az:=Z_ HB.out.at;replace HG:=Z_ (HG.out.aU gJ hE (fun _ h=>h.elim));have n0:=HB.out.nd.cell;have nf:=HB.out.nd.frozen;have nl:=HB.out.nd.lt;go_upto_region 30 with (fail)
   replace HB:=Z_ (HB.out.put (kind:=9) (text:=⟨#[]⟩) (num:=0) HG.out (by simp only [List.length_singleton];have:=HLEN.out;have:=ap3.out;have:=Xw.out;have:=ap4.out;omega));replace az:=Z_ HB.out.at;clear n0 nf nl hE HG;generalize (((u37.setCell ⟨N,0,none⟩ (.int .i64 9)).setCell ⟨N,1,none⟩ (.string ⟨#[]⟩)).setCell ⟨N,2,none⟩ (.int .i64 0)).setCell ⟨N,3,none⟩ (.slice (some ⟨u36.heap.size,0,none⟩) 1 1)=v37 at *;have HT0:=HT.out;clear HT;unfold nC at HT0;have HT:=Z_ HT0;clear HT0;have HN:=Z_ (dV (az.out.pr.alloc (.cells #[.string aW] 9)) v37.heap.size 1 aW ((aJ.made v37 #[.string aW] 9).cell 0));have h_:=(aB.refl (fun _=>False) v37).alloc (.cells #[.string aW] 9);replace HB:=Z_ (HB.out.extend h_);replace az:=Z_ HB.out.at;clear h_;go_wp2_with fail
   refine HN.out.mono ?_
   rintro e u38 hr;obtain⟨hC,⟨lb,hp,rfl⟩|⟨_,l38,_,hp,rfl,rfl,hP⟩⟩:=hr.cases (eX _ _)
   ·have HF:=Z_ (Out.aH HT.out hp)
    have HC:=Z_ (az.out.aU.then hC);clear hr hp hC;go_wp2_with fail
    exact⟨rfl,gU.fails HC.out HF.out⟩
   replace HT:=Z_ (Out.aI HT.out hp);have az6:=Z_ (bZ.bz hp);replace HB:=Z_ (HB.out.call hC hP (by have:=bZ.bz hp;omega));replace az:=Z_ HB.out.at;clear hr hp hC hP HN;obtain⟨ra,rn,rc,hrow⟩:=HB.out.slice3
   first|subst hrow|clear hrow
   have c0:=HB.out.nd.cell 0;have c1:=HB.out.nd.cell 1;have c2:=HB.out.nd.cell 2;have c3:=HB.out.nd.cell 3;have r0:=HB.out.res.cell;have rf:=HB.out.res.frozen;have rl:=HB.out.res.lt;unfold cG at r0;simp at c0 c1 c2 c3
   go_wp2_with fail
   refine cO rfl rfl rfl ((((HB.out.res.set 0 _).set 1 _).set 2 _).set 3 _) Tryz.underlying24 rfl (by kernel_rfl) ?_
   exact HB.out.ret (by decide) (HT.out.symm) _ _ _ _
 | true=>
  have HT0:=HT.out;clear HT;simp only [↓reduceIte] at HT0;have HT:=Z_ HT0;clear HT0;have HN:=Z_ (cE az.out.pr);go_wp2_with fail
  refine HN.out.mono ?_
  rintro e u39 hr;obtain⟨hC,⟨lb,hp,rfl⟩|⟨b39,l39,v,hp,rfl,⟨rfl,hb0,hb1⟩,hP⟩⟩:=hr.cases (lM _)
  ·have HF:=Z_ (Out.aH HT.out hp)
   have HC:=Z_ (az.out.aU.then hC);clear hr hp hC;go_wp2_with fail
   exact⟨rfl,gU.fails HC.out HF.out⟩
  replace HT:=Z_ (Out.aI HT.out hp);have aq1:=Z_ (bZ.fQ hp);replace HB:=Z_ (HB.out.call hC hP (by have:=bZ.fQ hp;omega));replace az:=Z_ HB.out.at;have Ji:=Z_ (And.intro hb0 hb1);clear hr hp hC hP HN;clear hb0 hb1;have HN:=Z_ (name_any az.out.pr HM.out);go_wp2_with fail
  refine HN.out.mono ?_
  rintro e u40 hr;obtain⟨hC,⟨lb,hp,rfl⟩|⟨s40,l40,v,hp,rfl,⟨rfl,hs⟩,hP⟩⟩:=hr.cases (kH _)
  ·have HF:=Z_ (Out.aH HT.out hp)
   have HC:=Z_ (az.out.aU.then hC);clear hr hp hC;go_wp2_with fail
   exact⟨rfl,gU.fails HC.out HF.out⟩
  replace HT:=Z_ (Out.aI HT.out hp);have aq2:=Z_ (bZ.jR hp);replace HB:=Z_ (HB.out.call hC hP (by have:=bZ.jR hp;omega));replace az:=Z_ HB.out.at;have qI:=Z_ hs;clear hr hp hC hP HN;clear hs;go_wp2_with fail
  refine(fG _ _ _ _ _ _ _).mono ?_
  rintro e u41 ⟨rfl,hE⟩;replace HB:=Z_ (HB.out.extend hE);replace az:=Z_ HB.out.at;have HG:=Z_ (Grow.nil 4 24 Jk (N+1) u41);have n0:=HB.out.nd.cell;have nf:=HB.out.nd.frozen;have nl:=HB.out.nd.lt;go_upto_region 8 with (fail)
  replace HB:=Z_ (HB.out.put (kind:=7) (text:=s40) (num:=b39) HG.out (by simp only [List.length_nil];have:=HLEN.out;have:=aq1.out;have:=aq2.out;omega));replace az:=Z_ HB.out.at;clear n0 nf nl hE HG;generalize (((u41.setCell ⟨N,0,none⟩ (.int .i64 7)).setCell ⟨N,1,none⟩ (.string s40)).setCell ⟨N,2,none⟩ (.int .i64 b39)).setCell ⟨N,3,none⟩ (.slice none 0 0)=v41 at *;have HN:=Z_ (dV (az.out.pr.alloc (.cells #[.string Ai] 9)) v41.heap.size 1 Ai ((aJ.made v41 #[.string Ai] 9).cell 0));have h_:=(aB.refl (fun _=>False) v41).alloc (.cells #[.string Ai] 9);replace HB:=Z_ (HB.out.extend h_);replace az:=Z_ HB.out.at;clear h_;go_wp2_with fail
  refine HN.out.mono ?_
  rintro e u42 hr;obtain⟨hC,⟨lb,hp,rfl⟩|⟨_,l42,_,hp,rfl,rfl,hP⟩⟩:=hr.cases (eX _ _)
  ·have HF:=Z_ (Out.aH HT.out hp)
   have HC:=Z_ (az.out.aU.then hC);clear hr hp hC;go_wp2_with fail
   exact⟨rfl,gU.fails HC.out HF.out⟩
  replace HT:=Z_ (Out.aI HT.out hp);have az7:=Z_ (bZ.bz hp);replace HB:=Z_ (HB.out.call hC hP (by have:=bZ.bz hp;omega));replace az:=Z_ HB.out.at;clear hr hp hC hP HN;go_upto_region 9 with (fail)
  refine aj [3,4,5,7] (fun i v _=>v=([.pointer (some ⟨N,3,none⟩),(.slice none 0 0),.pointer (some ⟨S,0,none⟩),undef,undef,undef,.pointer (some ⟨N,3,none⟩),undef]:List Value).getD i undef) (iM W w S E A N l42 7 s40 b39 (.slice none 0 0) [] (bn n .expr l42)) (fun _ _=>True) (frame:=?UN) (fun x=>?E8) mixed (by kernel_rfl) (by kernel_rfl) (fun _ _ _ _ h _=>h) ?UO ?UQ ?fine
  case E8=>
   simp only [chain.aS,chain.fill,chain.bT,chain.bC,oV,oW,oZ,o5,o6,o7,o8,o_,pq];exact rfl
  case UO=>exact HB.out.extend (aB.refl _ _).drew
  case UQ=>
   iterate 8 (refine ak.cons (fun x vs u hF hm hb hd K' hK'=>?_) ?_;rotate_left)
   exact ak.nil
   ·have HF:=Z_ hF;clear hd hm hb hF;go_simp;exact hK'.out _ _ _ rfl trivial ⟨rfl,HF.out⟩
   ·have y0:x 36=.pointer (some ⟨N,3,none⟩):=(D_ hd 0 :);have hc:=hF.cell (by have:=hb 2 _ (by decide) rfl (by kernel_rfl);omega);have HF:=Z_ hF;clear hd hm hb hF;go_simp;exact hK'.out _ _ _ (by simp only [y0];rfl) trivial ⟨rfl,HF.out⟩
   ·have HF:=Z_ hF;clear hd hm hb hF;go_simp;exact hK'.out _ _ _ rfl trivial ⟨rfl,HF.out⟩
   ·have y0:x 38=.pointer (some ⟨S,0,none⟩):=(D_ hd 2 :);obtain rfl:=pR hm;have HF:=Z_ (show lD _ _ _ _ _ _ _ _ _ _ _ _ _ _ from hF);clear hd hm hb hF;have mM:=Z_ (ih n (Nat.le_refl _) .expr _ _ HF.out.pr HM.out rfl trivial (Out.bI HT.out jO.out));go_simp;refine mM.out.mono ?_
    rintro e u2 hr;obtain⟨hC,⟨lb,hp,rfl⟩|⟨xn,ln,v,hp,rfl,hv,hP⟩⟩:=hr.cases (Out.bI HT.out jO.out)
    ·have HE:=Z_ (Out.aH HT.out hp)
     have HC:=Z_ (HF.out.aU.then hC);clear hr hp hC hK' mM;go_wp2_with fail
     exact⟨rfl,gU.fails HC.out HE.out⟩
    ·exact hK'.out _ _ _ (by simp only [y0];rfl) trivial (jb HF.out hC hp hv hP (bZ.fM _ _ _ _ _ hp))
   ·obtain⟨v0,rfl⟩:=rE hm
    have y0:x 39=v0:=((D_ hd 3) 39 (by kernel_rfl) :);have hcl:∃ a b c d,v0=.agg #[a,b,c,d]:=by obtain⟨xn,ln,_,_,_,hx⟩:=hF;obtain⟨a,b,c,d,h,_⟩:=b_ hx;exact⟨a,b,c,d,h⟩
    obtain⟨a0,b0,c0,d0,rfl⟩:=hcl;have HF:=Z_ hF;clear hd hm hb hF;go_simp;exact hK'.out _ _ _ (by simp only [y0];rfl) trivial (fZ HF.out rfl)
   ·obtain⟨v0,v1,rfl⟩:=yP hm
    have y0:x 37=(.slice none 0 0):=(D_ hd 1 :);have y1:x 40=v1:=((D_ hd 4) 40 (by kernel_rfl) :);have hF2:=hF;obtain⟨xn,ln,hT1,aY,hfew,hx,gg,rfl,hgb,hgr⟩:=hF2;obtain⟨us,hu1,ho,hu3⟩:=aY.grow.ex;have hlt:=aY.lt;obtain⟨mg,mD,hz0,hz1,hz2⟩:=bD gK;refine wp_append_lies _ _ _ 22 rfl (N+1) 24 mg (.agg #[.int .i64 0,.string ⟨#[]⟩,.int .i64 0,.slice none 0 0]) 4 56 Tryz.underlying22 mD hz0 hz1 hz2 rfl (by decide) (.slice none 0 0) [].length (us.flatMap fun u=>u.cells.toList) y0 ho ⟨gg,0,none⟩ 1 1 v0.cells.toList y1 (by rw [Array.length_toList,gY hx]) ?_ (by obtain⟨a,b,c,d,e,e2,p1,p2,p3,p4⟩:=b_ hx;rw [e2];intro q hq;simp at hq;rcases hq with rfl|rfl|rfl|rfl<;>assumption) (by decide) (by unfold maxLen;omega) (by omega) (by omega) u.heap.size rfl ?_
    ·intro j q hj;have e:(⟨gg,0,none⟩:Addr).add j=⟨gg,j,none⟩:=(by unfold Addr.add;split<;>simp_all);rw [e,hgb.cell];simpa using hj
    ·intro g9 c9 w9 kQ kM mF yK
     exact hK'.out _ _ _ rfl trivial (push_append hF hu1 hu3 kQ kM mF)
   ·have HF:=Z_ hF;clear hd hm hb hF;go_simp;exact hK'.out _ _ _ rfl trivial ⟨rfl,HF.out⟩
   ·obtain⟨v0,v1,v2,rfl⟩:=F_ hm
    have y0:x 42=.pointer (some ⟨N,3,none⟩):=(D_ hd 6 :);have y1:x 41=v2:=((D_ hd 5) 41 (by kernel_rfl) :);have hF2:=hF;obtain⟨xn,ln,hT1,aY,gg,cc,rfl⟩:=hF2;have hc:=aY.nd.cell 3;have hf:=aY.nd.frozen 3;have hl:=aY.lt;simp at hc
    have HF:=Z_ hF;clear hd hm hb hF aY hT1;go_simp;exact hK'.out _ _ undef (by simp only [y0,y1];rfl) trivial (f_ HF.out)
  case fine=>
   intro x vs w9 hl hF hk;obtain⟨v0,v1,v2,v3,rfl⟩:=Gf hl
   obtain⟨xne,lne,hT1,nT⟩:=hF;clear hk hl;replace HT:=Z_ (Out.aI HT.out hT1.out);replace HB:=Z_ nT;replace az:=Z_ HB.out.at;clear hT1 nT;have HT0:=HT.out;clear HT;unfold nC at HT0;have HT:=Z_ HT0;clear HT0;have HN:=Z_ (dV (az.out.pr.alloc (.cells #[.string aW] 9)) w9.heap.size 1 aW ((aJ.made w9 #[.string aW] 9).cell 0));have h_:=(aB.refl (fun _=>False) w9).alloc (.cells #[.string aW] 9);replace HB:=Z_ (HB.out.extend h_);replace az:=Z_ HB.out.at;clear h_;go_wp2_with fail
   refine HN.out.mono ?_
   rintro e u43 hr;obtain⟨hC,⟨lb,hp,rfl⟩|⟨_,l43,_,hp,rfl,rfl,hP⟩⟩:=hr.cases (eX _ _)
   ·have HF:=Z_ (Out.aH HT.out hp)
    have HC:=Z_ (az.out.aU.then hC);clear hr hp hC;go_wp2_with fail
    exact⟨rfl,gU.fails HC.out HF.out⟩
   replace HT:=Z_ (Out.aI HT.out hp);have az8:=Z_ (bZ.bz hp);replace HB:=Z_ (HB.out.call hC hP (by have:=bZ.bz hp;omega));replace az:=Z_ HB.out.at;clear hr hp hC hP HN;obtain⟨ra,rn,rc,hrow⟩:=HB.out.slice3
   first|subst hrow|clear hrow
   have c0:=HB.out.nd.cell 0;have c1:=HB.out.nd.cell 1;have c2:=HB.out.nd.cell 2;have c3:=HB.out.nd.cell 3;have r0:=HB.out.res.cell;have rf:=HB.out.res.frozen;have rl:=HB.out.res.lt;unfold cG at r0;simp at c0 c1 c2 c3
   go_wp2_with fail
   refine cO rfl rfl rfl ((((HB.out.res.set 0 _).set 1 _).set 2 _).set 3 _) Tryz.underlying24 rfl (by kernel_rfl) ?_
   exact HB.out.ret (by have:=qI.out;omega) (HT.out.symm) _ _ _ _
end bH
end Go.Proofs.YtpcihajmcejliacGreatDoor
