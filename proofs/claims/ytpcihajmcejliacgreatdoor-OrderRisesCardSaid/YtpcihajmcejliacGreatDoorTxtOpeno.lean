/- The walk of order.Order. The walk of has: does a row of words hold one? The walk of the program's Of: a text's face, its imports, its fault. The walk of the law OrderRises: each module stands once in the order, behind all that it imports. Texts that come in, opened. -/
import Derived.Deep.Slices
import Derived.ChangeArms
import Derived.ChangeShapes
import Derived.WideShapes
import Derived.DataReads
import Derived.Test.YtpcihajmcejliacGreatDoorOrdLo
import Derived.Test.YtpcihajmcejliacGreatDoorOfMo
import Derived.Test.YtpcihajmcejliacGreatDoorOfKo
import Derived.Test.YtpcihajmcejliacGreatDoorChkFo
import Derived.Test.YtpcihajmcejliacGreatDoorChkZo
import Derived.Test.YtpcihajmcejliacGreatDoorOrdPo
namespace Go.Proofs.YtpcihajmcejliacGreatDoor
open Go.RowKit Go.WideMaps Go.Maps
namespace ord
open bu cG jf chk
def Um (w:World) (T:qP (List Int)) (e:Ending) (w':World):Prop:=Ext w w'∧match T with
 | .no m c=>∃ p:Int,e=.returned (.tuple #[.slice none 0 0,.agg #[.int .i64 (m:Nat),.int .i64 c,.int .i64 p]])
 | .ok O=>∃ a c,e=.returned (.tuple #[.slice a O.length c,.agg #[.int .i64 0,.int .i64 0,.int .i64 0]])∧bC 1 dJ w' a O
theorem Dt {ts:List ByteArray} {m:Nat} {c:Int} (h:jD ts=.no m c):c≠0:=by
 have hf:∀ (l:List ByteArray) (i:Nat),jB l i=.no m c→c≠0:=by
  intro l;induction l with
  | nil=>intro i h;cases h
  | cons x r ih=>
   intro i h;unfold jB at h;by_cases hx:(jg x).2.2.1=0
   ·rw [if_pos hx] at h;exact ih _ h
   ·rw [if_neg hx] at h
    cases h
    exact hx
 have hn:∀ (l:List ByteArray) (i:Nat) (L:List (ByteArray×Int)),namesT l i L=.no m c→c≠0:=by
  intro l;induction l with
  | nil=>intro i L h;cases h
  | cons x r ih=>
   intro i L h;unfold namesT at h;by_cases hx:(dD L (iz x)).isSome=true
   ·rw [if_pos hx] at h;cases h;decide
   ·rw [if_neg hx] at h;exact ih _ _ h
 have hk:∀ (L:List (ByteArray×Int)) (l:List ByteArray) (i:Nat),jC L l i=.no m c→c≠0:=by
  intro L l;induction l with
  | nil=>intro i h;cases h
  | cons x r ih=>
   intro i h;unfold jC at h;by_cases hx:(dD L x).isSome=true
   ·rw [if_pos hx] at h;exact ih _ h
   ·rw [if_neg hx] at h;cases h;decide
 have hi:∀ (L:List (ByteArray×Int)) (l:List ByteArray) (i:Nat),f_ L l i=.no m c→c≠0:=by
  intro L l;induction l with
  | nil=>intro i h;cases h
  | cons x r ih=>
   intro i h;unfold f_ at h;cases hx:jC L (ig x) i with
   | ok u=>rw [hx] at h;exact ih _ h
   | no m' c'=>
    rw [hx] at h;cases h
    exact hk L _ _ hx
 have ht:∀ (L:List (ByteArray×Int)) (k:Nat) (out:List Int),iC L ts k out=.no m c→c≠0:=by
  intro L k;induction k with
  | zero=>intro out h;cases h
  | succ k ih=>
   intro out h;unfold iC at h;cases hp:lT L ts out ts.length 0 with
   | some i=>rw [hp] at h;exact ih _ h
   | none=>
    rw [hp] at h;simp only at h;cases hm:lC out ts.length 0 with
    | some i=>rw [hm] at h;cases h;decide
    | none=>rw [hm] at h;cases h
 have hc:∀ (L:List (ByteArray×Int)) (O:List Int),ij L ts O=.no m c→c≠0:=by
  intro L O;induction O with
  | nil=>intro h;cases h
  | cons x r ih=>
   intro h;unfold ij at h;by_cases hx:yK (kX (ts.getD x.toNat ⟨#[]⟩) (uM L ts (ts.getD x.toNat ⟨#[]⟩)))=0
   ·rw [if_pos hx] at h;exact ih h
   ·rw [if_neg hx] at h
    injection h with _ h2
    rw [←h2];exact hx
 have hm:∀ (L:List (ByteArray×Int)),qj L ts=.no m c→c≠0:=by
  intro L h;unfold qj at h;cases hq:dD L uS with
  | none=>rw [hq] at h;cases h;decide
  | some i=>
   rw [hq] at h;simp only at h;split at h
   ·cases h
   ·cases h;decide
 unfold jD at h;split at h
 ·cases h1:jB ts 0 with
  | no m' c'=>rw [h1] at h;cases h;exact hf _ _ h1
  | ok u=>
   rw [h1] at h;simp only [qP.bind] at h;cases h2:namesT ts 0 [] with
   | no m' c'=>rw [h2] at h;cases h;exact hn _ _ _ h2
   | ok L=>
    rw [h2] at h;simp only at h;cases h3:f_ L ts 0 with
    | no m' c'=>rw [h3] at h;cases h;exact hi _ _ _ h3
    | ok u=>
     rw [h3] at h;simp only at h;cases h4:iC L ts ts.length [] with
     | no m' c'=>rw [h4] at h;cases h;exact ht _ _ _ h4
     | ok O=>
      rw [h4] at h;simp only at h;cases h5:ij L ts O with
      | no m' c'=>rw [h5] at h;cases h;exact hc _ _ h5
      | ok u=>
       rw [h5] at h;simp only at h;cases h6:qj L ts with
       | no m' c'=>rw [h6] at h;cases h;exact hm _ h6
       | ok u=>rw [h6] at h;cases h
 ·cases h;decide
set_option maxRecDepth 100000 in
set_option maxHeartbeats 4000000 in
theorem zn (ts:List ByteArray) (ta:Option Addr) (n tc:Nat) (w:World) (hn:ts.length=n) (hnm:n≤maxLen) (ht:bC 1 y_ w ta ts) (hv:ErrVar w) (hm:cE w) :
  Calls Tryz.prog 22 #[.slice ta n tc] w (Um w (jD ts)):=by
 have hnz:=fun (m:Nat) (c:Int) (h:jD ts=.no m c)=>Dt h
 obtain⟨R,hR⟩:∃ R,w.heap.size=R:=⟨_,rfl⟩;have lH:=(aB.refl (fun _=>False) w).alloc (.cells #[.int .i64 0,.int .i64 0,.int .i64 0] 48);have DF:=Z_ (rZ ts ta n tc _ hn hnm (ht.keeps (Ext.keeps lH) fun b o y hy=>⟨(Ext.keeps lH).2 _ _ hy.1,hy.2⟩) (hv.ext lH) (hm.ext lH));obtain⟨T,hT⟩:∃ T,jD ts=T:=⟨_,rfl⟩;rw [hT] at DF hnz ⊢;have Jf:=Z_ hnz;have HX0:=Z_ lH;have HR0:=Z_ (aC.made w #[.int .i64 0,.int .i64 0,.int .i64 0] 48);rw [hR] at HR0;clear hT hnz hn hnm ht hv hm lH;go_enter Tryz.func22,Tryz.ntmps22
 go_upto_region 1 with (fail)
 try rw [hR]
 generalize w.alloc (.cells #[.int .i64 0,.int .i64 0,.int .i64 0] 48)=u0 at *;go_wp2_with fail
 refine DF.out.mono ?_
 rintro e w1 ⟨hE1,hP1⟩;have FD:=Z_ (HX0.out.ext hE1);have HR1:=Z_ (HR0.out.ext hE1);cases T with
 | no m c=>
  obtain⟨p,rfl⟩:=hP1;have hc:c≠0:=Jf.out m c rfl;have hcn:(c != 0)=true:=by simpa using hc
  have hX:=(aB.refl (fun _=>False) w1).alloc (.cells #[.int .i64 (m:Nat),.int .i64 c,.int .i64 p] 48);have HB:=Z_ (aC.made w1 #[.int .i64 (m:Nat),.int .i64 c,.int .i64 p] 48);have HR2:=Z_ (HR1.out.ext hX);have lG:=Z_ (FD.out.ext hX);obtain⟨X,Ew⟩:∃ X,w1.heap.size=X:=⟨_,rfl⟩;rw [Ew] at HB;clear hX hE1 DF Jf;go_upto_region 2 with (fail)
  try rw [Ew]
  generalize w1.alloc (.cells #[.int .i64 (m:Nat),.int .i64 c,.int .i64 p] 48)=u1 at *;have hb:=HB.out.cell;have hr:=HR2.out.cell;have hrf:=HR2.out.frozen;have hrl:=HR2.out.lt;go_upto_region 3 with (fail)
  go_still_tail 2,(by kernel_rfl)
  go_wp2_with fail
  have HR3:=Z_ (((HR2.out.drew.set 0 (.int .i64 (m:Nat))).set 1 (.int .i64 c)).set 2 (.int .i64 p));have hxe:=((((aB.refl (fun i=>i=R) u1).drew).setCell (p:=⟨R,0,none⟩) (fun _=>rfl) (.int .i64 (m:Nat))).setCell (p:=⟨R,1,none⟩) (fun _=>rfl) (.int .i64 c)).setCell (p:=⟨R,2,none⟩) (fun _=>rfl) (.int .i64 p);exact bodyPost_ret (jl rfl _ _ rfl HR3.out Tryz.underlying48 rfl (by kernel_rfl)) rfl ⟨lG.out.trans hxe (fun i hi e=>by omega),p,rfl⟩
 | ok O=>
  obtain⟨Pb,a,c,ml,nm,rfl,hP,hO⟩:=hP1;obtain⟨k,hk⟩:∃ k,O.length=k:=⟨_,rfl⟩;rw [hk] at hP;have hX:=(aB.refl (fun _=>False) w1).alloc (.cells #[.int .i64 0,.int .i64 0,.int .i64 0] 48);have HB:=Z_ (aC.made w1 #[.int .i64 0,.int .i64 0,.int .i64 0] 48);have HR2:=Z_ (HR1.out.ext hX);have lG:=Z_ (FD.out.ext hX);have HP2:=Z_ (hP.ext hX);have Gv:=Z_ (iT (Ext.uQ hX) hO);have HRL:=Z_ (show R<u0.heap.size from HR0.out.lt);obtain⟨X,Ew⟩:∃ X,w1.heap.size=X:=⟨_,rfl⟩;rw [Ew] at HB;clear hX hE1 DF Jf hP hO;go_upto_region 2 with (fail)
  try rw [Ew]
  generalize w1.alloc (.cells #[.int .i64 0,.int .i64 0,.int .i64 0] 48)=u1 at *;have hb:=HB.out.cell;have hr:=HR2.out.cell;have hrf:=HR2.out.frozen;have hrl:=HR2.out.lt;have hp:=HP2.out.cell;have hpl:=HP2.out.lt;go_upto_region 4 with (fail)
  go_still_tail 6,(by kernel_rfl)
  go_wp2_with fail
  have HR3:=Z_ (((HR2.out.drew.set 0 (.int .i64 0)).set 1 (.int .i64 0)).set 2 (.int .i64 0));have hxe:=((((aB.refl (fun i=>i=R) u1).drew).setCell (p:=⟨R,0,none⟩) (fun _=>rfl) (.int .i64 0)).setCell (p:=⟨R,1,none⟩) (fun _=>rfl) (.int .i64 0)).setCell (p:=⟨R,2,none⟩) (fun _=>rfl) (.int .i64 0);refine bodyPost_ret (jl rfl _ _ rfl HR3.out Tryz.underlying48 rfl (by kernel_rfl)) rfl ⟨lG.out.trans hxe (fun i hi e=>by omega),a,c,by rw [hk];rfl,?_⟩
  exact(iT (aH (M:=below u0.heap.size) hxe fun i _ e=>by have h:=HRL.out;simp [below];omega) Gv.out).keeps (ah _ _) fun b o y hy=>(ah _ _).2 _ _ hy
end ord
end Go.Proofs.YtpcihajmcejliacGreatDoor
namespace Go.Proofs.YtpcihajmcejliacGreatDoor
open Go.RowKit
namespace Gp
open cG
theorem PD {w w':World} (hE:Ext w w') {b o:Nat} {x:ByteArray} (hb:b<w.heap.size) (h:jo w b o x):jo w' b o x:=⟨by rw [hE.cell (by exact hb) id];exact h.1,h.2⟩
def hasB (l:List ByteArray) (s:ByteArray):Bool:=l.any fun x=>decide (x=s)
theorem Me {l:List ByteArray} {k:Nat} {s:ByteArray} (h:k<l.length):hasB (l.drop k) s=(decide (l[k]=s) || hasB (l.drop (k+1)) s):=by
 rw [List.drop_eq_getElem_cons h];rfl
set_option maxRecDepth 100000 in
set_option maxHeartbeats 2000000 in
theorem Gq (a:Option Addr) (l:List ByteArray) (n cap:Nat) (s:ByteArray) (w:World) (hn:l.length=n) (hl:bC 1 jo w a l) (hm:n≤9223372036854775807) :
  Calls Tryz.prog 19 #[.slice a n cap,.string s] w fun e w'=>e=.returned (.bool (hasB l s))∧Ext w w':=by
 obtain⟨R,hR⟩:∃ R,hasB l s=R:=⟨_,rfl⟩;rw [hR];have HR:=Z_ hR;have HN:=Z_ hn;have HL:=Z_ hl;clear hR hn hl;go_enter Tryz.func19,Tryz.ntmps19
 go_wp2_with fail
 go_loopw [5] (fun i wr=>∃ k:Nat,k≤n∧i=.int .i64 k∧Ext w wr∧Hid (hasB (l.drop k) s=R)) (fun i _=>n-(intOf i).toNat)
 case atStart=>exact⟨0,Nat.zero_le _,rfl,aB.refl _ _,by unfold Hid;exact HR.out⟩
 case round=>
  obtain⟨k,hk,rfl,hE,hr⟩:=hrel;by_cases hlt:k<n
  ·have hkl:k<l.length:=by rw [HN.out];exact hlt
   obtain⟨b,o,rfl,hb,hc⟩:=HL.out k hkl;obtain⟨c0,-⟩:=PD hE hb hc;have HF:=Z_ ((Me (s:=s) hkl).symm.trans hr.out);clear hc hr;generalize l[k]=nm at *;rw [show o+k*1=o+k from by rw [Nat.mul_one]] at c0;by_cases hs:nm=s
   ·subst hs
    have HF2:=Z_ (show R=true by rw [←HF.out];simp);go_wp2_with fail
    go_ret
    rw [HF2.out];exact⟨rfl,hE⟩
   ·have HF2:=Z_ (show hasB (l.drop (k+1)) s=R by rw [←HF.out];simp [hs])
    have h0:(nm.toList == s.toList)=false:=by rw [ByteArray.toList_eq,ByteArray.toList_eq];simpa [ByteArray.ext_iff] using hs
    have h1:(nm.data.toList == s.data.toList)=false:=by simpa [ByteArray.ext_iff] using hs
    clear hs HF;go_wp2_with fail
    go_roundw
    case rel=>exact⟨k+1,by omega,by go_num,hE,HF2.out⟩
    case measure=>simp [intOf];omega
  ·obtain rfl:k=n:=by omega
   have HF2:=Z_ (show R=false by rw [←hr.out,List.drop_of_length_le (by rw [HN.out];exact Nat.le_refl _)];rfl);clear hr;go_wp2_with fail
   go_ret
   rw [HF2.out];exact⟨rfl,hE⟩
end Gp
end Go.Proofs.YtpcihajmcejliacGreatDoor
namespace Go.Proofs.YtpcihajmcejliacGreatDoor
open Go.RowKit
namespace ofq
open bu cG ZT
theorem MC (w:World):kJ 1 jo [] (.slice none 0 0) w:=⟨none,0,rfl,Nat.le_refl _,by decide,fun j h=>(by cases h)⟩
theorem uU {P:Program} {fn:Func} {p m q:Tmp} {ty F7:TypeId} (h:fn.results=#[.cell p ty,.tmp m,.cell q F7]) (tmps:Array Value) (w:World) {g g2:Nat} {T T2:TypeId} {cs F8:Array Value} {d d2:TypeDesc}
  (hp:tmps.getD p undef=.pointer (some ⟨g,0,none⟩)) (hg:aC w g cs T) (hu:P.underlying ty=some d) (hd:(match d with|.struct _|.array _ _=>true|_=>false)=true) (hi:(P.info? ty).map (·.size)=some cs.size)
  (hq:tmps.getD q undef=.pointer (some ⟨g2,0,none⟩)) (hg2:aC w g2 F8 T2) (hu2:P.underlying F7=some d2) (hd2:(match d2 with|.struct _|.array _ _=>true|_=>false)=true) (hi2:(P.info? F7).map (·.size)=some F8.size) {v:Value} (hm:tmps.getD m undef=v) :
  (results fn tmps).run P w=.ok (.tuple #[.agg cs,v,.agg F8]) w:=by
 have hp':tmps[p]?.getD undef=.pointer (some ⟨g,0,none⟩):=by simpa using hp
 have hq':tmps[q]?.getD undef=.pointer (some ⟨g2,0,none⟩):=by simpa using hq
 have hm':tmps[m]?.getD undef=v:=by simpa using hm
 simp [results,h,hp',hq',hm',asAddr,run_loadVar_row w g T ty cs (0,0) d hg hu hd hi,run_loadVar_row w g2 T2 F7 F8 (0,0) d2 hg2 hu2 hd2 hi2]
structure OQ (w u:World) (R F V:Nat) (fc:Array Value) (z0 z1 c a:Int):Prop where
 ext:Ext w u
 rf:aC u R fc 37
 rz:aC u F #[.int .i64 z0,.int .i64 z1] 27
 vb:aC u V #[.int .i64 c,.int .i64 a] 27
 hw:w.heap.size≤R
 pU:R<F
 hFV:F<V
theorem OQ.extend {w u u':World} {R F V:Nat} {fc:Array Value} {z0 z1 c a:Int} (h:OQ w u R F V fc z0 z1 c a) (hE:Ext u u'):OQ w u' R F V fc z0 z1 c a:=
 ⟨h.ext.ext hE,h.rf.ext hE,h.rz.ext hE,h.vb.ext hE,h.hw,h.pU,h.hFV⟩
theorem OQ.LN {w u:World} {R F V:Nat} {fc:Array Value} {z0 z1 c a:Int} (h:OQ w u R F V fc z0 z1 c a):OQ w ((u.setCell ⟨F,0,none⟩ (.int .i64 c)).setCell ⟨F,1,none⟩ (.int .i64 a)) R F V fc c a c a:=by
 have h1:=h.hw;have h2:=h.pU;have h3:=h.hFV
 have hC:=ai (ai (S:=F) (aB.refl _ u) 0 (.int .i64 c)) 1 (.int .i64 a);exact⟨h.ext.trans hC (fun i hi e=>by omega),h.rf.aK hC (by omega),(h.rz.set 0 _).set 1 _,h.vb.aK hC (by omega),h1,h2,h3⟩
theorem OQ.LM {w u:World} {R F V:Nat} {p q r:Value} {z0 z1 c a:Int} (h:OQ w u R F V #[p,q,r] z0 z1 c a) (p' q' r':Value):OQ w (((u.setCell ⟨R,0,none⟩ p').setCell ⟨R,1,none⟩ q').setCell ⟨R,2,none⟩ r') R F V #[p',q',r'] z0 z1 c a:=by
 have h1:=h.hw;have h2:=h.pU;have h3:=h.hFV
 have hC:=ai (ai (ai (S:=R) (aB.refl _ u) 0 p') 1 q') 2 r';exact⟨h.ext.trans hC (fun i hi e=>by omega),((h.rf.set 0 _).set 1 _).set 2 _,h.rz.aK hC (by omega),h.vb.aK hC (by omega),h1,h2,h3⟩
def QC (w w1:World) (R F V D:Nat) (dc:Array Value) (vi:Value) (f:aQ) (is:List ByteArray):List Value→World→Prop
 | [],u=>OQ w u R F V #[.string ⟨#[]⟩,.slice none 0 0,.slice none 0 0] 0 0 0 0∧aC u D dc 128∧Ext w1 u
 | [vf],u=>OQ w u R F V #[.string ⟨#[]⟩,.slice none 0 0,.slice none 0 0] 0 0 0 0∧aC u D dc 128∧kJ 1 jo is vi (hide (below (F+1)) u)∧Nz.kZ (below (F+1)) u f vf
 | [vf,_],u=>OQ w u R F V vf.cells 0 0 0 0∧aC u D dc 128∧kJ 1 jo is vi (hide (below (F+1)) u)∧Nz.kZ (below (F+1)) u f vf
 | [vf,_,v2],u=>v2=vi∧OQ w u R F V vf.cells 0 0 0 0∧aC u D dc 128∧kJ 1 jo is vi (hide (below (F+1)) u)∧Nz.kZ (below (F+1)) u f vf
 | [vf,_,v2,_],u=>v2=vi∧OQ w u R F V vf.cells 0 0 0 0∧aC u D dc 128∧kJ 1 jo is vi (hide (below (F+1)) u)∧Nz.kZ (below (F+1)) u f vf
 | _,_=>False
theorem QC.any {w w1:World} {R F V D:Nat} {dc:Array Value} {vi:Value} {f:aQ} {is:List ByteArray} {vs:List Value} {u:World} (h:QC w w1 R F V D dc vi f is vs u):(∃ fc,OQ w u R F V fc 0 0 0 0)∧aC u D dc 128:=by
 match vs,h with
 | [],h=>exact⟨⟨_,h.1⟩,h.2.1⟩
 | [_],h=>exact⟨⟨_,h.1⟩,h.2.1⟩
 | [_,_],h=>exact⟨⟨_,h.1⟩,h.2.1⟩
 | [_,_,_],h=>exact⟨⟨_,h.2.1⟩,h.2.2.1⟩
 | [_,_,_,_],h=>exact⟨⟨_,h.2.1⟩,h.2.2.1⟩
def Au (w:World) (R:aQ×List ByteArray×Int×Int) (e:Ending) (w':World):Prop:=
 Ext w w'∧∃ vF vI,e=.returned (.tuple #[vF,vI,.agg #[.int .i64 R.2.2.1,.int .i64 R.2.2.2]])∧Nz.kZ (below w.heap.size) w' R.1 vF∧kJ 1 jo R.2.1 vI w'
theorem Au.post {w:World} {R:aQ×List ByteArray×Int×Int} {e:Ending} {w':World} (h:Au w R e w'):TS w R e w':=by
 obtain⟨h1,vF,vI,h2,h3,h4⟩:=h;exact⟨h1,vF,vI,h2,fE.keeps (ah _ _) h3.at_,h4⟩
theorem MG (M:Nat→Bool) (w:World):Nz.kZ M w gZ (.agg #[.string ⟨#[]⟩,.slice none 0 0,.slice none 0 0]):=
 ⟨none,0,none,0,rfl,fun j h=>(by cases h),fun j h=>(by cases h),by decide,Nat.le_refl _,by decide,Nat.le_refl _,by decide,.inl rfl⟩
theorem lI {l:List ByteArray} {v:Value} {w w':World} (h:kJ 1 jo l v w) (hk:bV w w'):kJ 1 jo l v w':=h.keeps (fun _ _ _ h=>⟨hk.2 _ _ h.1,h.2⟩) hk
theorem Fh {l:List Nd} (h:∀ y∈l,y.tx.size≤10000):∀ x∈dP l,x.name.size≤10000:=fun x hx=>by
 unfold dP at hx;obtain⟨y,hy,rfl⟩:=List.mem_map.1 hx;exact h y (List.mem_filter.1 hy).1
theorem Du {l:List Nd} (h:∀ y∈l,y.tx.size≤10000):∀ x∈aP l,x.name.size≤10000:=fun x hx=>by
 unfold aP at hx;obtain⟨y,hy,rfl⟩:=List.mem_map.1 hx;exact h y (List.mem_filter.1 hy).1
set_option maxRecDepth 100000 in
set_option maxHeartbeats 8000000 in
theorem Un (s:ByteArray) (w:World) (hs:s.size≤9223372036854775807) (hv:ErrVar w) (hm:cE w) :
  Calls Tryz.prog 18 #[.string s] w (Au w (jg s)):=by
 obtain⟨x,hx⟩:∃ x,(aJ s).1=x:=⟨_,rfl⟩;obtain⟨Q,hQ⟩:∃ Q,jg s=Q:=⟨_,rfl⟩;obtain⟨R,hR⟩:∃ R,w.heap.size=R:=⟨_,rfl⟩;obtain⟨F,hF⟩:∃ F,R+1=F:=⟨_,rfl⟩;have hR0:=(aC.made w #[.string ⟨#[]⟩,.slice none 0 0,.slice none 0 0] 37).alloc (.cells #[.int .i64 0,.int .i64 0] 27);have kY:=aC.made2 w (.cells #[.string ⟨#[]⟩,.slice none 0 0,.slice none 0 0] 37) #[.int .i64 0,.int .i64 0] 27;have hz0:((w.alloc (.cells #[.string ⟨#[]⟩,.slice none 0 0,.slice none 0 0] 37)).alloc (.cells #[.int .i64 0,.int .i64 0] 27)).heap.size=F+1:=by simp;omega
 rw [hR] at hR0 kY;rw [hF] at kY;have lH:=((aB.refl (fun _=>False) w).alloc (.cells #[.string ⟨#[]⟩,.slice none 0 0,.slice none 0 0] 37)).alloc (.cells #[.int .i64 0,.int .i64 0] 27);have HC:=Z_ (J4.rZ s _ hs (hv.ext lH) (hm.ext lH));rw [hx,hQ] at HC
 have Zf:=Z_ (show Q.2.2.1=0→Q=(CX false x,dK x.kids,0,0) by
  intro h0;subst hQ;subst hx;unfold jg at h0 ⊢;by_cases h1:(aJ s).2.1=0
  ·rw [if_pos h1] at h0 ⊢
   by_cases h2:(gQ (aJ s).1.tx (aJ s).1.kids [] [] 1).1=0
   ·rw [if_pos h2]
   ·rw [if_neg h2] at h0;exact absurd h0 h2
  ·rw [if_neg h1] at h0;exact absurd h0 h1)
 have Zg:=Z_ (show Q.2.2.1≠0→Q=(gZ,[],Q.2.2.1,Q.2.2.2) by
  intro h0;subst hQ;unfold jg at h0 ⊢;by_cases h1:(aJ s).2.1=0
  ·rw [if_pos h1] at h0 ⊢
   by_cases h2:(gQ (aJ s).1.tx (aJ s).1.kids [] [] 1).1=0
   ·rw [if_pos h2] at h0;exact absurd rfl h0
   ·rw [if_neg h2]
  ·rw [if_neg h1])
 have QG:=Z_ (show Q.2.2.1=0→Q.2.2.2=0 from fun h=>by rw [Zf.out h]);rw [hQ];have pU:R<F:=by omega
 have HR0:=Z_ hR0;have o_:=Z_ kY;have HX0:=Z_ lH;have Tf:=Z_ hz0;have DZ:=Z_ hR;clear hx hQ hR0 kY lH hz0 hv hm hR;go_enter Tryz.func18,Tryz.ntmps18
 go_upto_region 1 with (fail)
 try rw [DZ.out]
 try rw [hF]
 generalize (w.alloc (.cells #[.string ⟨#[]⟩,.slice none 0 0,.slice none 0 0] 37)).alloc (.cells #[.int .i64 0,.int .i64 0] 27)=u0 at *;go_wp2_with fail
 refine HC.out.mono ?_
 rintro e w1 ⟨hE1,vp,rfl,hgood⟩;obtain⟨c,hc⟩:∃ c,Q.2.2.1=c:=⟨_,rfl⟩;obtain⟨a,ha⟩:∃ a,Q.2.2.2=a:=⟨_,rfl⟩;rw [hc] at hgood Zf Zg;rw [ha] at Zg;rw [hc,ha] at QG;rw [hc,ha];have RR:=Z_ hgood;have Qm:=(aB.refl (fun _=>False) w1).alloc (.cells #[.int .i64 c,.int .i64 a] 27)
 have hOQ:OQ w (w1.alloc (.cells #[.int .i64 c,.int .i64 a] 27)) R F w1.heap.size #[.string ⟨#[]⟩,.slice none 0 0,.slice none 0 0] 0 0 c a:=
  ⟨(HX0.out.ext hE1).ext Qm,(HR0.out.ext hE1).ext Qm,(o_.out.ext hE1).ext Qm,aC.made w1 _ _,by have:=DZ.out;omega,pU,by have:=(o_.out.ext hE1).lt;omega⟩
 have HO:=Z_ hOQ;have HEN:=Z_ Qm;have OA:=Z_ (o_.out.ext hE1).lt;obtain⟨V,hV⟩:∃ V,w1.heap.size=V:=⟨_,rfl⟩;rw [hV] at HO;clear hOQ Qm hgood hE1 HC HR0 o_ HX0 hc ha;go_upto_region 2 with (fail)
 try rw [hV]
 generalize w1.alloc (.cells #[.int .i64 c,.int .i64 a] 27)=u1 at *;clear hV;have hv:=HO.out.vb.cell;by_cases hc0:c=0
 ·subst hc0
  have F_:=Z_ (Zf.out rfl);obtain⟨D,a1,c1,a2,c2,a3,c3,d3,d4,d5,d6,d8,rfl,-,-,hD,UF,UG,J5,hlv,hlp,htx,hky⟩:=RR.out rfl;obtain rfl:a=0:=QG.out rfl;rw [Tf.out] at UF UG J5;have HD:=Z_ hD;have HAV:=Z_ UF;have RS:=Z_ UG;have ZZ:=Z_ J5;have Wi:=Z_ (And.intro htx hky);have yJ:=Z_ (And.intro hlv hlp);obtain⟨dc,hdc⟩:∃ dc:Array Value,#[.string x.tx,.slice a1 (dP x.kids).length c1,.slice a2 (aP x.kids).length c2,d3,d4,d5,d6,.slice a3 (dK x.kids).length c3,d8]=dc:=⟨_,rfl⟩;have QV:=Z_ hdc;have HDB:=Z_ (show aC u1 D dc 128 from hdc▸hD.ext HEN.out);obtain⟨nI,Z4⟩:∃ n,(dK x.kids).length=n:=⟨_,rfl⟩;rw [Z4] at hdc ZZ;have Xr:=Z_ (show dc[7]? = some (.slice a3 nI c3) by rw [←hdc];rfl);clear hD UF UG J5 hlv hlp htx hky hdc Z4 HD RR Zf Zg
  go_upto_region 4 with (fail)
  clear hv;refine aj [1,7,8,9] (fun i v _=>v=([.pointer (some ⟨D,0,none⟩),undef,.pointer (some ⟨D,0,none⟩),.pointer (some ⟨D,0,none⟩),.pointer (some ⟨D,7,none⟩),.slice a3 nI c3,.agg #[.int .i64 0,.int .i64 0],undef,undef,undef]:List Value).getD i undef) (QC w u1 R F V D dc (.slice a3 nI c3) (CX false x) (dK x.kids)) (fun _ _=>True) (frame:=?Es) (fun x=>?rD) bu.mixed (by kernel_rfl) (by kernel_rfl) (fun _ _ _ _ h _=>h) ?Et ?Eu ?rE
  case rD=>
   simp only [chain.aN,chain.fill,chain.bf,chain.aY,jW,jX,jY,jZ,kz,kC,kD,kE,kF];exact rfl
  case Et=>exact⟨HO.out.extend (aB.refl _ _).drew,HDB.out.ext (aB.refl _ _).drew,(aB.refl _ _).drew⟩
  case Eu=>
   iterate 10 (refine ak.cons (fun x vs u hF hm hb hd K' hK'=>?_) ?_;rotate_left)
   exact ak.nil
   ·have HF:=Z_ hF;clear hd hm hb hF;go_simp;exact hK'.out _ _ _ (rfl) trivial ⟨rfl,HF.out⟩
   ·obtain rfl:=kS hm;have y0:x 17=.pointer (some ⟨D,0,none⟩):=(D_ hd 0 :);obtain⟨mJ,hDD,hEE⟩:=hF;have SC:=Z_ (show bV (hide (below (F+1)) w1) (hide (below (F+1)) u) from aH (HEN.out.ext hEE) fun _ _ e=>e.elim);have HX:=Z_ (Nz.open_any (M:=below (F+1)) (w:=u) (by rw [QV.out];exact hDD) ((HAV.out.keeps SC.out fun _ _ _=>gy.keeps SC.out).keeps (ah _ _) fun _ _ _=>gy.keeps (ah _ _)) (RS.out.keeps SC.out fun _ _ _=>dB.keeps SC.out) (fun i hi=>by have:=OA.out;have h2:=(HEN.out.ext hEE).size;simp [below] at hi;omega) Wi.out.1 (Fh Wi.out.2) (Du Wi.out.2) yJ.out.1 yJ.out.2);have Zh:=Z_ (show OQ _ _ _ _ _ _ _ _ _ _ from mJ);have wK:=Z_ (show aC _ _ _ _ from hDD);clear hd hm hb mJ hEE hDD
    go_simp;refine HX.out.mono ?_
    rintro e u2 ⟨vf,rfl,Jw,hE⟩;exact hK'.out _ _ _ (by simp only [y0];rfl) trivial ⟨Zh.out.extend hE,wK.out.ext hE,lI (ZZ.out) ((SC.out).trans (aH hE fun _ _ e=>e.elim)),Jw⟩
   ·have HF:=Z_ hF;clear hd hm hb hF;go_simp;exact hK'.out _ _ _ (rfl) trivial ⟨rfl,HF.out⟩
   ·obtain⟨⟨_,mJ⟩,hDD⟩:=QC.any hF;have hq:=hDD.lt;clear mJ hDD;have y0:x 19=.pointer (some ⟨D,0,none⟩):=(D_ hd 2 :);have HF:=Z_ hF;clear hd hm hb hF;go_simp;exact hK'.out _ _ _ (by simp only [y0];rfl) trivial ⟨rfl,HF.out⟩
   ·have y0:x 20=.pointer (some ⟨D,0,none⟩):=(D_ hd 3 :);have HF:=Z_ hF;clear hd hm hb hF;go_simp;exact hK'.out _ _ _ (by simp only [y0];rfl) trivial ⟨rfl,HF.out⟩
   ·obtain⟨⟨_,mJ⟩,hDD⟩:=QC.any hF;have hq:=(hDD.cell 7).trans Xr.out;clear mJ hDD;have y0:x 21=.pointer (some ⟨D,7,none⟩):=(D_ hd 4 :);have HF:=Z_ hF;clear hd hm hb hF;go_simp;exact hK'.out _ _ _ (by simp only [y0];rfl) trivial ⟨rfl,HF.out⟩
   ·obtain⟨⟨_,mJ⟩,hDD⟩:=QC.any hF;have hq:=mJ.vb.cell;clear mJ hDD;have HF:=Z_ hF;clear hd hm hb hF;go_simp;exact hK'.out _ _ _ (rfl) trivial ⟨rfl,HF.out⟩
   ·obtain⟨v0,rfl⟩:=mD hm
    have y0:x 18=v0:=((D_ hd 1) 18 (by kernel_rfl) :);obtain⟨mJ,hDD,QH,Nr⟩:=hF;have hfo:∃ sn fa n1 fm fc n2 fd,v0=.agg #[.string sn,.slice fa n1 fm,.slice fc n2 fd]:=by obtain⟨a_,m_,c_,d_,e_,-⟩:=id Nr;exact⟨_,_,_,_,_,_,_,e_⟩
    obtain⟨sn,fa,n1,fm,fc,n2,fd,rfl⟩:=hfo;have hq:=mJ.rf.cell;have hf:=mJ.rf.frozen;have hl:=mJ.rf.lt;have HDR:=Z_ (show D≠R from fun e=>by subst e;unfold aC at hDD;have:=mJ.rf;unfold aC at this;rw [hDD] at this;cases this);have Zh:=Z_ mJ;have yh:=Z_ Nr;have Ry:=Z_ QH;have wK:=Z_ hDD;clear hd hm hb mJ Nr QH hDD;go_simp;have hC:=ai (ai (ai (S:=R) (aB.refl _ u) 0 (.string sn)) 1 (.slice fa n1 fm)) 2 (.slice fc n2 fd);exact hK'.out _ _ undef (by simp only [y0];rfl) trivial ⟨Zh.out.LM _ _ _,wK.out.aK hC HDR.out,lI Ry.out (aH hC fun i _ e=>by subst e;simp [below];omega),yh.out.aK hC (fun i e=>by subst e;simp [below];omega)⟩
   ·obtain⟨v0,v1,rfl⟩:=tN hm
    have y0:x 22=.slice a3 nI c3:=(D_ hd 5 :);have HF:=Z_ hF;clear hd hm hb hF;go_simp;exact hK'.out _ _ _ (by simp only [y0];rfl) trivial ⟨rfl,HF.out⟩
   ·obtain⟨v0,v1,v2,rfl⟩:=zF hm
    have y0:x 23=.agg #[.int .i64 0,.int .i64 0]:=(D_ hd 6 :);obtain⟨rfl,mJ,hDD,QH,Nr⟩:=hF;have hq:=mJ.rz.cell;have hf:=mJ.rz.frozen;have hl:=mJ.rz.lt;have HDR:=Z_ (show D≠F from fun e=>by subst e;unfold aC at hDD;have:=mJ.rz;unfold aC at this;rw [hDD] at this;cases this);have Zh:=Z_ mJ;have yh:=Z_ Nr;have Ry:=Z_ QH;have wK:=Z_ hDD;clear hd hm hb mJ Nr QH hDD;go_simp;have hC:=ai (ai (S:=F) (aB.refl _ u) 0 (.int .i64 0)) 1 (.int .i64 0);exact hK'.out _ _ undef (by simp only [y0];rfl) trivial ⟨rfl,Zh.out.LN,wK.out.aK hC HDR.out,lI Ry.out (aH hC fun i _ e=>by subst e;simp [below]),yh.out.aK hC (fun i e=>by subst e;simp [below])⟩
  case rE=>
   intro x9 vs w9 hl hF hk;obtain⟨v0,v1,v2,v3,rfl⟩:=zG hl
   have y3:=hk 8 (by decide) 3 (by kernel_rfl);replace y3:x9 3=v2:=y3;obtain⟨rfl,mJ,hDD,QH,Nr⟩:=hF;have hfo:∃ p q r,v0=.agg #[p,q,r]:=by obtain⟨a_,m_,c_,d_,e_,-⟩:=id Nr;exact⟨_,_,_,e_⟩
   obtain⟨p9,q9,r9,rfl⟩:=hfo;have jy:=Z_ mJ;have yh:=Z_ Nr;have Ry:=Z_ QH;clear hk hl mJ Nr QH hDD;go_wp2_with fail
   refine bodyPost_ret (uU rfl _ _ rfl jy.out.rf Tryz.underlying37 rfl (by kernel_rfl) rfl jy.out.rz Tryz.underlying27 rfl (by kernel_rfl) (v:=.slice a3 nI c3) (by simp)) rfl ?_
   rw [F_.out];exact⟨jy.out.ext,_,_,rfl,yh.out.weak (fun i hi=>by have:=DZ.out;simp [below] at hi ⊢;omega),lI Ry.out (ah _ _)⟩
 ·have hcn:(c != 0)=true:=by simpa using hc0
  have F_:=Z_ (Zg.out hc0);have hce:(c == 0)=false:=by simpa using hc0
  clear RR Zf Zg QG;go_upto_region 3 with (fail)
  clear hv;refine aj [2,4] (fun i v _=>v=([.agg #[.string ⟨#[]⟩,.slice none 0 0,.slice none 0 0],.agg #[.int .i64 c,.int .i64 a],undef,.slice none 0 0,undef]:List Value).getD i undef) (fun vs u=>∃ z0 z1:Int,(vs.length=2→z0=c∧z1=a)∧OQ w u R F V #[.string ⟨#[]⟩,.slice none 0 0,.slice none 0 0] z0 z1 c a) (fun _ _=>True) (frame:=?ES) (fun x=>?rK) bu.mixed (by kernel_rfl) (by kernel_rfl) (fun _ _ _ _ h _=>h) ?ET ?EU ?rL
  case rK=>
   simp only [chain.aN,chain.fill,chain.bf,chain.aY,jW,jX,jY,jZ,kz,kC,kD,kE,kF];exact rfl
  case ET=>exact⟨0,0,(fun h=>(by cases h)),HO.out.extend (aB.refl _ _).drew⟩
  case EU=>
   iterate 5 (refine ak.cons (fun x vs u hF hm hb hd K' hK'=>?_) ?_;rotate_left)
   exact ak.nil
   ·have HF:=Z_ hF;clear hd hm hb hF;go_simp;exact hK'.out _ _ _ (rfl) trivial ⟨rfl,HF.out⟩
   ·obtain⟨_,_,_,mJ⟩:=id hF;have hq:=mJ.vb.cell;clear mJ;have HF:=Z_ hF;clear hd hm hb hF;go_simp;exact hK'.out _ _ _ (rfl) trivial ⟨rfl,HF.out⟩
   ·obtain rfl:=kS hm;have y0:x 15=.agg #[.string ⟨#[]⟩,.slice none 0 0,.slice none 0 0]:=(D_ hd 0 :);obtain⟨z0,z1,hz,mJ⟩:=hF;have hq:=mJ.rf.cell;have hf:=mJ.rf.frozen;have hl:=mJ.rf.lt;have HF:=Z_ mJ;clear hd hm hb mJ hz;go_simp;exact hK'.out _ _ undef (by simp only [y0];rfl) trivial ⟨z0,z1,(fun h=>(by cases h)),HF.out.LM _ _ _⟩
   ·have HF:=Z_ hF;clear hd hm hb hF;go_simp;exact hK'.out _ _ _ (rfl) trivial ⟨rfl,HF.out⟩
   ·obtain⟨v0,rfl⟩:=mD hm
    have y0:x 16=.agg #[.int .i64 c,.int .i64 a]:=(D_ hd 1 :);obtain⟨z0,z1,hz,mJ⟩:=hF;have hq:=mJ.rz.cell;have hf:=mJ.rz.frozen;have hl:=mJ.rz.lt;have HF:=Z_ mJ;clear hd hm hb mJ hz;go_simp;exact hK'.out _ _ undef (by simp only [y0];rfl) trivial ⟨_,_,fun _=>⟨rfl,rfl⟩,HF.out.LN⟩
  case rL=>
   intro x9 vs w9 hl hF hk;obtain⟨v0,v1,rfl⟩:=DT hl
   obtain⟨z0,z1,hz,mJ⟩:=hF;obtain⟨hz0,hz1⟩:=hz rfl;rw [hz0,hz1] at mJ;have y3:=hk 3 (by decide);replace y3:x9 3=.slice none 0 0:=y3;have jy:=Z_ mJ;clear hk hl mJ;go_wp2_with fail
   refine bodyPost_ret (uU rfl _ _ rfl jy.out.rf Tryz.underlying37 rfl (by kernel_rfl) rfl jy.out.rz Tryz.underlying27 rfl (by kernel_rfl) (v:=.slice none 0 0) (by simp [y3])) rfl ?_
   rw [F_.out];exact⟨jy.out.ext,_,_,rfl,MG _ _,MC _⟩
end ofq
end Go.Proofs.YtpcihajmcejliacGreatDoor
namespace Go.Proofs.YtpcihajmcejliacGreatDoor
open Go.RowKit Go.WideMaps Go.Maps
namespace ord
open bu cG jf chk Gp
theorem MH {B:Nat} {w:World} {row:Value} {l:List ByteArray} (h:Grow 1 9 yz B w row l):∃ a c,row=.slice a l.length c∧bC 1 jo w a l:=by
 obtain⟨a,c,e,-,-,h3⟩:=h.row iJ CW;exact⟨a,c,e,h3.keeps (ah _ _) fun b o y hy=>⟨(ah _ _).2 _ _ hy.1,hy.2⟩⟩
theorem PE {l:List ByteArray} {s:ByteArray} (h:s∈l):hasB l s=true:=List.any_eq_true.2 ⟨s,h,decide_eq_true rfl⟩
theorem Uo {l:List ByteArray} {s:ByteArray} (h:s ∉ l):hasB l s=false:=by
 cases hq:hasB l s with
 | false=>rfl
 | true=>
  obtain⟨y,hy,e⟩:=List.any_eq_true.1 hq;exact absurd (by have e2:=of_decide_eq_true e;rw [←e2];exact hy) h
set_option maxRecDepth 100000 in
set_option maxHeartbeats 16000000 in
theorem walk (ts:List ByteArray) (ta:Option Addr) (n tc:Nat) (w:World) (hn:ts.length=n) (hnm:n≤maxLen) (ht:bC 1 y_ w ta ts) (hv:ErrVar w) (hm:cE w) :
  Calls Tryz.prog 6 #[.slice ta n tc] w fun e w'=>e=.returned (.bool true)∧Ext w w':=by
 have lH:=(aB.refl (fun _=>False) w).alloc (.cells #[.string BH] 9)
 have Bi:=Z_ (zn [BH] (some ⟨w.heap.size,0,none⟩) 1 1 _ rfl (by decide) (fun j hj=>⟨w.heap.size,0,rfl,(aC.made w #[.string BH] 9).lt,by
  obtain rfl:j=0:=by simp at hj;omega
  exact⟨(aC.made w #[.string BH] 9).cell 0,show BH.size≤maxLen by unfold maxLen;decide⟩⟩) (hv.ext lH) (hm.ext lH))
 have CO:=Z_ (fun (u:World) (hE:Ext w u)=>zn ts ta n tc u hn hnm (ht.keeps (Ext.keeps hE) fun b o y hy=>⟨(Ext.keeps hE).2 _ _ hy.1,hy.2⟩) (hv.ext hE) (hm.ext hE));rw [Si] at Bi;have HRS:=Z_ (fun O (h:jD ts=.ok O)=>BG h);have Jf:=Z_ (fun m c (h:jD ts=.no m c)=>Dt h);obtain⟨T,hT⟩:∃ T,jD ts=T:=⟨_,rfl⟩;rw [hT] at CO HRS Jf;have HN:=Z_ hn;have UB:=Z_ ht;have HV:=Z_ hv;have HM:=Z_ hm;have HX0:=Z_ lH;have hmz:n≤9223372036854775807:=by unfold maxLen at hnm;omega
 clear hn ht hv hm lH hT hnm;unfold BH at Bi HX0;go_enter Tryz.func6,Tryz.ntmps6
 go_upto_region 1 with (fail)
 go_wp2_with fail
 refine Bi.out.mono ?_
 rintro e w1 ⟨hE1,a1,c1,rfl,-⟩;have hX1:=hE1.alloc (.cells #[.int .i64 0,.int .i64 0,.int .i64 0] 48);have FD:=Z_ (HX0.out.ext hX1);clear hE1 Bi hX1;go_upto_region 4 with (fail)
 generalize w1.alloc (.cells #[.int .i64 0,.int .i64 0,.int .i64 0] 48)=u1 at *;go_wp2_with fail
 refine(CO.out u1 FD.out).mono ?_
 rintro e w2 ⟨hE2,oU⟩;have lG:=Z_ (FD.out.ext hE2);clear CO FD;cases T with
 | no m c=>
  obtain⟨p,rfl⟩:=oU;have hcn:(c != 0)=true:=by have:=Jf.out m c rfl;simpa using this
  have qU:=(aB.refl (fun _=>False) w2).alloc (.cells #[.int .i64 (m:Nat),.int .i64 c,.int .i64 p] 48);have HB3:=Z_ (aC.made w2 #[.int .i64 (m:Nat),.int .i64 c,.int .i64 p] 48);have qW:=Z_ (lG.out.ext qU);obtain⟨X,hX⟩:∃ X,w2.heap.size=X:=⟨_,rfl⟩;rw [hX] at HB3;clear qU hE2 HRS Jf;go_upto_region 5 with (fail)
  try rw [hX]
  generalize w2.alloc (.cells #[.int .i64 (m:Nat),.int .i64 c,.int .i64 p] 48)=u3 at *;have hb:=HB3.out.cell;go_wp2_with fail
  go_ret
  exact⟨rfl,qW.out⟩
 | ok O=>
  obtain⟨a,c,rfl,hO⟩:=oU;obtain⟨m,Qv⟩:∃ m,O.length=m:=⟨_,rfl⟩;obtain⟨r1,r2,r3⟩:=HRS.out O rfl;rw [HN.out] at r1 r2;have hmn:m=n:=by rw [←Qv];exact r1
  rw [Qv];have XG:=Z_ Qv;have HR3:=Z_ r3;have qU:=(aB.refl (fun _=>False) w2).alloc (.cells #[.int .i64 0,.int .i64 0,.int .i64 0] 48);have HB3:=Z_ (aC.made w2 #[.int .i64 0,.int .i64 0,.int .i64 0] 48);have qW:=Z_ (lG.out.ext qU);have Vf:=Z_ (hO.keeps (Ext.keeps qU) fun b o y hy=>(Ext.keeps qU).2 _ _ hy);obtain⟨X,hX⟩:∃ X,w2.heap.size=X:=⟨_,rfl⟩;rw [hX] at HB3;clear qU hE2 HRS Jf hO r3 Qv;go_upto_region 5 with (fail)
  try rw [hX]
  generalize w2.alloc (.cells #[.int .i64 0,.int .i64 0,.int .i64 0] 48)=u3 at *;have hb:=HB3.out.cell;subst hmn;go_wp2_with fail
  clear hb;go_loopw [7,8] (fun row x wr=>∃ q:Nat,q≤m∧x=.int .i64 q∧Hid (Ext u3 wr)∧Hid (Grow 1 9 yz u3.heap.size wr row ((O.take q).map (pW ts)))) (fun _ x _=>m-(intOf x).toNat)
  case atStart=>exact⟨0,Nat.zero_le _,rfl,Z_ (aB.refl _ _),Z_ (Grow.nil _ _ _ _ _)⟩
  case round=>
   obtain⟨q,hq,rfl,hE,hG⟩:=hrel;have HEw:=Z_ (qW.out.ext hE.out);by_cases hlt:q<m
   ·have hqi:(q:Int)<(m:Int):=by omega
    have Tz:q<O.length:=by rw [XG.out];exact hlt
    obtain⟨i,hi,e1,k1,k2,k3⟩:=HR3.out q Tz;obtain⟨bo,oo,e0,hb0,Zi⟩:=(Vf.out.keeps (Ext.keeps hE.out) fun b o y hy=>(Ext.keeps hE.out).2 _ _ hy) q Tz;subst e0;have mg:wr.cell? ⟨bo,oo+q,none⟩=some (.int .i64 (i:Nat)):=by have h:=Zi;unfold dJ at h;rw [Nat.mul_one,e1] at h;exact h
    have hin:i<m:=by rw [HN.out] at hi;exact hi
    have ag1:(i:Int)<(m:Int):=by omega
    have hin0:¬ (i:Int)<0:=by omega
    have hin1:¬ (m:Int)≤(i:Int):=by omega
    have hin2:decide ((m:Int)≤(i:Int))=false:=by simp;omega
    obtain⟨b7,o7,rfl,htx,hsz⟩:=EL HEw.out UB.out hi;have Nw:=Z_ (show pW ts O[q]=iz ts[i] by unfold pW;rw [e1,Int.toNat_natCast,getD_at hi]);have Qc:=Z_ (take_snoc Tz);generalize ts[i]=s at *;have hnz:=Ep k1;have UM:=Z_ (ofq.Un s wr (by unfold maxLen at hsz;omega) (HV.out.ext HEw.out) (HM.out.ext HEw.out));have MI:=Kw k1;have himp:=Ky k1;obtain⟨Q,hQ⟩:∃ Q,jg s=Q:=⟨_,rfl⟩;rw [hQ] at UM MI himp k1;obtain⟨fx,im,cc,pp⟩:=Q;obtain rfl:cc=0:=k1;replace himp:im=ig s:=himp;replace MI:fx.modn=iz s:=MI;rw [←himp] at k2;rw [←MI] at k3 hnz Nw;have yx:=Z_ k2;have HK3:=Z_ k3;clear Zi e1 k2 k3 hQ himp MI;go_wp2_with fail
    refine UM.out.mono ?_
    rintro e w4 hO4;obtain⟨vJ,vF,vI,rfl,hf4,hi4⟩:=hO4.post;replace hi4:kJ 1 jo im vI w4:=hi4;replace hf4:fE w4 fx vF:=hf4;obtain⟨ia,ic,rfl,hic,Zj,hii⟩:=hi4
    obtain⟨xa,xc,xp,xq,rfl,-⟩:∃ ma mc mp mq,vF=.agg #[.string fx.modn,.slice ma fx.vars.length mc,.slice mp fx.procs.length mq]∧True:=by
     obtain⟨a,am,c,cm,rfl,-⟩:=hf4;exact⟨_,_,_,_,rfl,trivial⟩
    obtain⟨nv,Jk⟩:∃ nv,fx.vars.length=nv:=⟨_,rfl⟩;obtain⟨np,hnp⟩:∃ np,fx.procs.length=np:=⟨_,rfl⟩;obtain⟨mn,hmn⟩:∃ mn,fx.modn=mn:=⟨_,rfl⟩;obtain⟨ni,hni⟩:∃ ni,im.length=ni:=⟨_,rfl⟩;rw [hmn] at HK3 hnz Nw;rw [hni] at hic;rw [Jk,hnp,hmn,hni];have Qs:=Z_ hni;have I_:=((aB.refl (fun _=>False) w4).alloc (.cells #[.string mn,.slice xa nv xc,.slice xp np xq] 37)).alloc (.cells #[.int .i64 0,.int .i64 pp] 27);have M_:=Z_ ((aC.made w4 #[.string mn,.slice xa nv xc,.slice xp np xq] 37).alloc (.cells #[.int .i64 0,.int .i64 pp] 27));have Tc:=Z_ (aC.made2 w4 (.cells #[.string mn,.slice xa nv xc,.slice xp np xq] 37) #[.int .i64 0,.int .i64 pp] 27);have HI5:=Z_ (show bC 1 jo _ ia im from hii.keeps (Ext.keeps I_) fun b o y hy=>⟨(Ext.keeps I_).2 _ _ hy.1,hy.2⟩)
    have Xz:=Z_ ((hE.out.ext vJ).ext I_);have Js:=Z_ ((hG.out.aK iJ vJ (fun _ h=>h.elim)).aK iJ I_ (fun _ h=>h.elim));have XC:ni≤9223372036854775807:=by unfold maxLen at Zj;omega
    obtain⟨X5,Ur⟩:∃ X,w4.heap.size=X:=⟨_,rfl⟩;rw [Ur] at M_ Tc;clear hO4 vJ hf4 hic Zj hii I_ UM hE hG Jk hnp hmn hni htx mg hb0;go_upto_region 14 with (fail)
    try rw [Ur]
    generalize (w4.alloc (.cells #[.string mn,.slice xa nv xc,.slice xp np xq] 37)).alloc (.cells #[.int .i64 0,.int .i64 pp] 27)=u5 at *;clear Ur;have hc5:=Tc.out.cell;go_wp2_with fail
    clear hc5;obtain⟨a9,c9,e9,h9⟩:=MH Js.out;rw [List.length_map,List.length_take,Nat.min_eq_left (by omega:q≤O.length)] at e9;subst e9;have HNA:=Z_ h9;clear h9;obtain⟨w5,hw5⟩:∃ w5,w5=u5:=⟨_,rfl⟩;subst hw5;go_loopw [12] (fun x wr=>∃ r:Nat,r≤ni∧x=.int .i64 r∧Hid (Ext w5 wr)) (fun x _=>ni-(intOf x).toNat)
    case atStart=>exact⟨0,Nat.zero_le _,rfl,Z_ (aB.refl _ _)⟩
    case round=>
     obtain⟨r,hr,rfl,DL⟩:=hrel;by_cases TA:r<ni
     ·have hri:(r:Int)<(ni:Int):=by omega
      have hrt:r<im.length:=by rw [Qs.out];exact TA
      obtain⟨b6,o6,e6,hb6,hs6⟩:=(HI5.out.keeps (Ext.keeps DL.out) fun b o y hy=>⟨(Ext.keeps DL.out).2 _ _ hy.1,hy.2⟩) r hrt;subst e6;have hst:wr.cell? ⟨b6,o6+r,none⟩=some (.string im[r]):=by have h:=hs6.1;rw [Nat.mul_one] at h;exact h
      have hyes:=PE (yx.out _ (List.getElem_mem hrt));generalize im[r]=t at *;have Us:=Z_ (Gq a9 ((O.take q).map (pW ts)) q c9 t wr (by rw [List.length_map,List.length_take,Nat.min_eq_left (by omega:q≤O.length)]) (HNA.out.keeps (Ext.keeps DL.out) fun b o y hy=>⟨(Ext.keeps DL.out).2 _ _ hy.1,hy.2⟩) (by omega));rw [hyes] at Us;clear hs6 hb6 hyes;go_wp2_with fail
      refine Us.out.mono ?_
      rintro e w6 ⟨rfl,vO⟩;have Rk:=Z_ (DL.out.ext vO);clear vO Us hst;go_wp2_with fail
      go_roundw
      case rel=>exact⟨r+1,by omega,by go_num,Rk⟩
      case measure=>simp [intOf];omega
     ·obtain rfl:ni=r:=by omega
      have ag5:¬ ((ni:Int)<(ni:Int)):=by omega
      have Sz:=Z_ (M_.out.ext DL.out);have Zk:=Z_ (HNA.out.keeps (Ext.keeps DL.out) fun b o y hy=>⟨(Ext.keeps DL.out).2 _ _ hy.1,hy.2⟩);have hno:=Uo HK3.out;have Us:=Z_ (Gq a9 ((O.take q).map (pW ts)) q c9 mn wr (by rw [List.length_map,List.length_take,Nat.min_eq_left (by omega:q≤O.length)]) Zk.out (by omega));rw [hno] at Us;have hb6:=Sz.out.cell;clear hno;go_wp2_with fail
      refine Us.out.mono ?_
      rintro e w6 ⟨rfl,vO⟩;have Zv:=Z_ (Sz.out.ext vO);have ML:=Z_ ((Js.out.aK iJ DL.out (fun _ h=>h.elim)).aK iJ vO (fun _ h=>h.elim));have Rk:=Z_ ((Xz.out.ext DL.out).ext vO);clear vO Us hb6 Sz Zk;have hb7:=Zv.out.cell;obtain⟨us,hu1,ho,hu3⟩:=ML.out.ex;rw [List.length_map,List.length_take,Nat.min_eq_left (by omega:q≤O.length)] at ho;have HU:=Z_ (And.intro hu1 hu3);have HO7:=Z_ (ho.alloc (.cells #[.string mn] 9));have Qr:=Z_ (aC.made w6 #[.string mn] 9);have hbs:u3.heap.size≤w6.heap.size:=Rk.out.size;clear hu1 hu3 ho;obtain⟨iW,iY,hz0,hz1,hz2⟩:=aW CZ;go_wp2_with (at_builtin;refine wpList_append_lies _ rfl _ _ 39 rfl u3.heap.size 9 iW (.string ⟨#[]⟩) 1 16 Tryz.underlying39 iY hz0 hz1 hz2 rfl (by decide) (.slice a9 q c9) q (us.flatMap fun u=>u.cells.toList) rfl HO7.out ⟨w6.heap.size,0,none⟩ 1 1 [.string mn] rfl rfl (by intro j_ z_ hj;have e:(⟨w6.heap.size,0,none⟩:Addr).add j_=⟨w6.heap.size,j_,none⟩:=(by unfold Addr.add;split<;>simp_all);rw [e,Qr.out.cell];simpa using hj) (by intro q_ LJ;simp only [List.mem_cons,List.not_mem_nil,or_false] at LJ;subst LJ;rfl) (by decide) (by unfold maxLen;omega) (by omega) (by simp;omega) (w6.heap.size+1) (by simp) ?_;intro g9 c9' w9 hown hgrow hat hlt1;have qH:=Z_ (oM (acc:=(O.take q).map (pW ts)) (o:=.cells #[.string mn] 9) iJ HU.out.1 HU.out.2 (x:=mn) (v:=.string mn) ⟨rfl,by omega⟩ rfl (by rw [List.length_map,List.length_take,Nat.min_eq_left (by omega:q≤O.length)];exact hown) hgrow hat);clear hown hgrow hat)
      have kO:=Z_ (Rk.out.trans qH.out.2 (fun i9 hi9 e=>by have:=(ML.out.uz e).1;omega));have Dx:=Z_ qH.out.1;rw [List.length_map,List.length_take,Nat.min_eq_left (by omega:q≤O.length)] at Dx;go_roundw
      case rel=>exact⟨q+1,by omega,by go_num,kO,Z_ (by rw [Qc.out,List.map_append,List.map_cons,List.map_nil,Nw.out];exact Dx.out)⟩
      case measure=>simp [intOf];omega
   ·obtain rfl:m=q:=by omega
    have hnl:¬ ((m:Int)<(m:Int)):=by omega
    go_wp2_with fail
    go_ret
    exact⟨by simp,HEw.out⟩
end ord
end Go.Proofs.YtpcihajmcejliacGreatDoor
namespace Go.Proofs.YtpcihajmcejliacGreatDoor.textsOpen
open Go.ChangeShapes Go.WideShapes Go.Deep Go.RowKit Go.Proofs.YtpcihajmcejliacGreatDoor Go.Proofs.YtpcihajmcejliacGreatDoor.ord
variable {H:Type} {enc:TypeId×Value→H} {w:World} {base:Nat} {spare:Nat→Bool} {held:Bool}
theorem cS:Tryz.prog.cellsOf 9=1:=by kernel_rfl
theorem IZ {α : Type} [Inhabited α] {In:World→Nat→Nat→α→Prop} {N:DataW H→α→Prop} {t e:TypeId} {k fuel:Nat} {u:Value} {x:DataW H×List MemPlace} (hk:0<k) (ht:Tryz.prog.underlying t=some (.slice e)) (hc:Tryz.prog.cellsOf e=k)
  (h:DataW.trod enc Tryz.prog w base spare held fuel t [u]=some x)
  (each:∀ (n:Nat) (cs:List Value) (y:DataW H×List MemPlace),DataW.trod enc Tryz.prog w base spare held n e cs=some y→∃ z:α,(∀ b o,b<w.heap.size→(∀ j,j<k→w.cell? ⟨b,o+j,none⟩=cs[j]?)→In w b o z)∧N y.1 z) :
  ∃ a l cap,u=.slice a l.length cap∧bC k In w a l∧l.length≤cap∧cap≤maxLen∧(l=[]∨∃ E S,x.1=.slice E S∧E.length=l.length∧∀ z∈l,∃ d∈E,N d z):=by
 rcases open_slice ht h with ⟨h0,rfl⟩|⟨a,len,cap,m,n,D,Pl,h0,hb,hl,hm,hmm,rfl,hx⟩
 ·cases h0
  exact⟨none,[],0,rfl,fun j hj=>absurd hj (Nat.not_lt_zero _),Nat.zero_le _,Nat.zero_le _,.inl rfl⟩
 ·cases h0
  have hlm:len≤m:=by rw [hmm];split<;>omega
  rw [hc] at hx
  have hZ:∀ i,i<m→∃ z:α,(∀ b o,a=⟨b,o,none⟩→b<w.heap.size→In w b (o+i*k) z)∧N (D i) z:=by
   intro i hi;obtain⟨cs',h1,h2⟩:=hx i hi;obtain⟨z,hz,hz2⟩:=each n cs' _ h2;refine⟨z,fun b o e hb=>hz b _ hb fun j hj=>?_,hz2⟩
   subst e;obtain⟨_,_,h3⟩:=World.cells?_some h1;have:=h3 j hj;rw [add_add] at this;rw [←this];unfold Addr.add;split
   ·rename_i h0
    rw [show o+i*k+j=o by omega]
   ·simp [Nat.add_assoc]
  obtain⟨Z,hZ⟩:=choose_lt hZ;refine⟨some a,(List.range len).map Z,cap,by simp,fun j hj=>?_,by simpa using hl,hm,.inr ⟨_,_,rfl,by simp,fun z hz=>?_⟩⟩
  rotate_left
  ·obtain⟨i,hi,rfl⟩:=List.mem_map.1 hz
   have hi2:=List.mem_range.1 hi;exact⟨D i,List.mem_map.2 ⟨i,by simpa using hi2,rfl⟩,(hZ i (by omega)).2⟩
  have hj':j<len:=by simpa using hj
  obtain⟨b,off,spot⟩:=a;obtain⟨cs',h1,_⟩:=hx 0 (by omega);obtain⟨_,hlen,h3⟩:=World.cells?_some h1;have h4:=h3 0 hk;simp [Addr.add] at h4
  rw [List.getElem?_eq_getElem (by omega)] at h4;have hs:=World.cell?_spot h4;simp only at hs;subst hs;have hblt:=World.block_lt_of_cell? w _ h4;refine⟨b,off,rfl,hblt,?_⟩
  simpa using (hZ j (by omega)).1 b off rfl hblt
set_option maxRecDepth 100000 in
theorem DN {fuel:Nat} {u:Value} {x:DataW H×List MemPlace} (h:DataW.trod enc Tryz.prog w base spare held fuel 39 [u]=some x) :
  ∃ a l cap,u=.slice a l.length cap∧bC 1 y_ w a l∧l.length≤cap∧cap≤maxLen:=by
 obtain⟨a,l,cap,h1,h2,h3,h4,-⟩:=IZ (In:=y_) (N:=fun _ _=>True) (k:=1) (by decide) Tryz.underlying39 cS h fun n cs y hy=>by
  obtain⟨s,e0,-,hs⟩:=DataW.trod_string Tryz.underlying9 hy;cases e0
  exact⟨s,fun b o _ hc=>⟨hc 0 (by decide),hs⟩,trivial⟩
 exact⟨a,l,cap,h1,h2,h3,h4⟩
end Go.Proofs.YtpcihajmcejliacGreatDoor.textsOpen
