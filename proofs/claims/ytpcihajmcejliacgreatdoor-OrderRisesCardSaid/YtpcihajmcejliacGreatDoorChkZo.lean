/- Plain laws of the order; a row of faces that grows. The order rises: the plain law. A fault of the checker has a code that is not 0: plain Lean. -/
import Derived.Test.YtpcihajmcejliacGreatDoorOrdPo
import Derived.Test.YtpcihajmcejliacGreatDoorChkFo
import Derived.Test.YtpcihajmcejliacGreatDoorChkWo
import Derived.Test.YtpcihajmcejliacGreatDoorOrdMo
namespace Go.Proofs.YtpcihajmcejliacGreatDoor
open Go.RowKit Go.WideMaps Go.Maps
namespace ord
open bu cG jf
theorem BA:∀ (l:List ByteArray) (i:Nat),jB l i=.ok ()→∀ s∈l,(jg s).2.2.1=0:=by
 intro l;induction l with
 | nil=>intro i _ s hs;cases hs
 | cons x r ih=>
  intro i h s hs;unfold jB at h;by_cases hx:(jg x).2.2.1=0
  ·rw [if_pos hx] at h
   rcases List.mem_cons.1 hs with rfl|hs
   ·exact hx
   ·exact ih _ h s hs
  ·rw [if_neg hx] at h;cases h
theorem Ek:∀ (l:List ByteArray) (q:Nat) (L0 L:List (ByteArray×Int)),namesT l q L0=.ok L→(∀ s i,dD L0 s=some i→0≤i∧i<(q:Int))→∀ s i,dD L s=some i→0≤i∧i<((q+l.length:Nat):Int):=by
 intro l;induction l with
 | nil=>intro q L0 L h h0;cases h;simpa using h0
 | cons x r ih=>
  intro q L0 L h h0;unfold namesT at h;by_cases hx:(dD L0 (iz x)).isSome=true
  ·rw [if_pos hx] at h;cases h
  ·rw [if_neg hx] at h
   have h2:=ih (q+1) _ L h fun s i hs=>by
    rw [pV] at hs;cases hq:dD L0 s with
    | some c=>
     rw [hq] at hs;obtain rfl:c=i:=by simpa using hs
     have:=h0 s c hq;omega
    | none=>
     rw [hq] at hs;simp only at hs;by_cases e:iz x=s
     ·rw [if_pos e] at hs
      obtain rfl:(q:Int)=i:=by simpa using hs
      omega
     ·rw [if_neg e] at hs;cases hs
   intro s i hs;have:=h2 s i hs;simp only [List.length_cons];omega
theorem Em {ts:List ByteArray} {n:Nat} {L:List (ByteArray×Int)} (h:namesT ts 0 []=.ok L) (hn:ts.length=n) (h1:1≤n) (s:ByteArray):0≤(dD L s).getD 0∧(dD L s).getD 0<(n:Int):=by
 cases hs:dD L s with
 | none=>exact⟨Int.le_refl _,by simp;omega⟩
 | some i=>
  have:=Ek ts 0 [] L h (fun s i e=>by cases e) s i hs;rw [hn] at this;simpa using this
theorem FT {L:List (ByteArray×Int)} {ts:List ByteArray} {out:List Int}:∀ (k i j:Nat),lT L ts out k i=some j→i≤j∧j<i+k∧nK L ts out j=true:=by
 intro k;induction k with
 | zero=>intro i j h;cases h
 | succ k ih=>
  intro i j h;unfold lT at h;by_cases hr:nK L ts out i=true
  ·rw [if_pos hr] at h
   obtain rfl:i=j:=by simpa using h
   exact⟨Nat.le_refl _,by omega,hr⟩
  ·rw [if_neg hr] at h
   have:=ih _ _ h;exact⟨by omega,by omega,this.2.2⟩
theorem Kr {L:List (ByteArray×Int)} {ts:List ByteArray}:∀ (k:Nat) (out O:List Int),iC L ts k out=.ok O→(∀ x∈out,0≤x∧x<(ts.length:Int))→∀ x∈O,0≤x∧x<(ts.length:Int):=by
 intro k;induction k with
 | zero=>intro out O h h0;cases h;exact h0
 | succ k ih=>
  intro out O h h0;unfold iC at h;cases hp:lT L ts out ts.length 0 with
  | some i=>
   rw [hp] at h;have h1:=FT _ _ _ hp;refine ih _ _ h fun x hx=>?_
   rcases List.mem_append.1 hx with hx|hx
   ·exact h0 x hx
   ·obtain rfl:x=(i:Int):=by simpa using hx
    omega
  | none=>
   rw [hp] at h;simp only at h;cases hm:lC out ts.length 0 with
   | some i=>rw [hm] at h;cases h
   | none=>rw [hm] at h;cases h;exact h0
theorem G_ {L:List (ByteArray×Int)} {ts:List ByteArray}:∀ (k:Nat) (out O:List Int),iC L ts k out=.ok O→O.length≤out.length+k:=by
 intro k;induction k with
 | zero=>intro out O h;cases h;exact Nat.le_refl _
 | succ k ih=>
  intro out O h;unfold iC at h;cases hp:lT L ts out ts.length 0 with
  | some i=>
   rw [hp] at h;have:=ih _ _ h;rw [List.length_append,List.length_singleton] at this;omega
  | none=>
   rw [hp] at h;simp only at h;cases hm:lC out ts.length 0 with
   | some i=>rw [hm] at h;cases h
   | none=>rw [hm] at h;cases h;omega
def nZ (L:List (ByteArray×Int)) (ts:List ByteArray) (t:ByteArray):aQ:=(jg (ts.getD ((dD L t).getD 0).toNat ⟨#[]⟩)).1
theorem zQ (L:List (ByteArray×Int)) (ts:List ByteArray) (s:ByteArray):uM L ts s=(ig s).map (nZ L ts):=rfl
theorem RZ {B:Nat} {u:World} {a:Option Addr} {l:List Int} (h:bC 1 dJ (hide (below B) u) a l) {q:Nat} (hq:q<l.length):∃ b o,a=some ⟨b,o,none⟩∧u.cell? ⟨b,o+q,none⟩=some (.int .i64 l[q]):=by
 obtain⟨b,o,e,hb,h1⟩:=h q hq;refine⟨b,o,e,?_⟩
 unfold dJ at h1;rw [Nat.mul_one] at h1;exact(ah _ u).2 _ _ h1
theorem En {B:Nat} {w:World} {la:Option Addr} {n lc:Nat} {Ds:List Nat} {l:List ByteArray} (h:mG B w (.slice la n lc) Ds l) {j:Nat} (hj:j<l.length):∃ b o D,la=some ⟨b,o,none⟩∧w.cell? ⟨b,o+j,none⟩=some (.pointer (some ⟨D,0,none⟩))∧Ds[j]? = some D∧n_ (bg B (.slice la n lc)) w D l[j]:=by
 obtain⟨la9,lc9,e9,-,hpa,-⟩:=h.slice;cases e9
 have hl:=h.len;obtain⟨b,o,e,hb,hp⟩:=hpa j (by omega);unfold uN at hp;rw [Nat.mul_one] at hp;exact⟨b,o,Ds[j]'(by omega),e,hp,List.getElem?_eq_getElem (by omega),h.dec j hj⟩
theorem Om:∀ (l:List Nd),l.length≤kV l:=by
 intro l;induction l with
 | nil=>exact Nat.zero_le _
 | cons x r ih=>
  cases x with
  | mk k t m q=>simp only [List.length_cons,kV,fL];omega
theorem Kt {s:ByteArray} (h:(jg s).2.2.1=0):(ig s).length≤500:=by
 have hp:(aJ s).2.1=0:=by
  unfold jg at h;by_cases h1:(aJ s).2.1=0
  ·exact h1
  ·rw [if_neg h1] at h;exact absurd h h1
 have h1:=(wQ s hp).2.2.2;have h2:=Om (aJ s).1.kids;have h3:(ig s).length≤(aJ s).1.kids.length:=by unfold ig dK;rw [List.length_map];exact List.length_filter_le _ _
 generalize (aJ s).1=x at *;cases x with
 | mk k t m l=>simp only [fL,Nd.kids] at h1 h2 h3;omega
theorem BB {L:List (ByteArray×Int)} {ts:List ByteArray} {O:List Int} {q:Nat} (h:q<O.length):ij L ts (O.drop q)=if yK (kX (ts.getD O[q].toNat ⟨#[]⟩) (uM L ts (ts.getD O[q].toNat ⟨#[]⟩)))=0 then ij L ts (O.drop (q+1)) else .no O[q].toNat (yK (kX (ts.getD O[q].toNat ⟨#[]⟩) (uM L ts (ts.getD O[q].toNat ⟨#[]⟩)))):=by
 rw [List.drop_eq_getElem_cons h,ij]
theorem getD_at {ts:List ByteArray} {j:Nat} (h:j<ts.length):ts.getD j ⟨#[]⟩=ts[j]:=by rw [List.getD_eq_getElem?_getD,List.getElem?_eq_getElem h];rfl
theorem zS {s:ByteArray} (h:(jg s).2.2.1=0):(jg s).1=⟨iz s,(dP (aJ s).1.kids).filter fun v=>v.dR,(aP (aJ s).1.kids).filter fun p=>p.dR⟩:=by
 unfold jg at h ⊢;by_cases h1:(aJ s).2.1=0
 ·rw [if_pos h1] at h ⊢
  by_cases h2:(gQ (aJ s).1.tx (aJ s).1.kids [] [] 1).1=0
  ·rw [if_pos h2]
   rfl
  ·rw [if_neg h2] at h;exact absurd h h2
 ·rw [if_neg h1] at h;exact absurd h h1
theorem uf:(Tryz.prog.info? 37).map (fun i=>(i.zero,i.size,i.bytes))=some (some (.agg #[.string ⟨#[]⟩,.slice none 0 0,.slice none 0 0]),3,64):=by kernel_rfl
def VF (x:aQ) (v:Value) (w:World):Prop:=fE w x v
theorem wS (x:aQ) (u:Value) (w w':World) (hk:bV w w') (h:VF x u w):VF x u w':=su hk h
theorem Oo (w:World) (b o:Nat) (x:aQ) (u:Value) (h:VF x u w) (_:u.cells.size=3) (hc:∀ i,i<3→w.cell? ⟨b,o+i,none⟩=u.cells[i]?):Eh w b o x:=by
 have h2:=h;obtain⟨a,m,c,d,rfl,-⟩:=h2;exact⟨a,m,c,d,hc 0 (by decide),hc 1 (by decide),hc 2 (by decide),h⟩
theorem He {B:Nat} {w:World} {row:Value} {l:List aQ} (h:Grow 3 37 VF B w row l):∃ a c,row=.slice a l.length c∧l.length≤c∧c≤maxLen∧bC 3 Eh w a l:=by
 obtain⟨a,c,e,h1,h2,h3⟩:=h.row wS Oo;refine⟨a,c,e,h1,h2,h3.keeps (ah _ _) fun b o y hy=>?_⟩
 obtain⟨a,m,c,d,g0,g1,g2,g3⟩:=hy;exact⟨a,m,c,d,(ah _ _).2 _ _ g0,(ah _ _).2 _ _ g1,(ah _ _).2 _ _ g2,su (ah _ _) g3⟩
theorem Ku {M M':Nat→Bool} {w u:World} {D:Nat} {s:ByteArray} (h:n_ M w D s) (hS:vG M M' w u) (hM:∀ i,M' i=true→i<u.heap.size) (h0:(jg s).2.2.1=0) :
  Calls Tryz.prog 55 #[.pointer (some ⟨D,0,none⟩)] u fun e w'=>∃ a b c d,e=.returned (.agg #[.string (jg s).1.modn,.slice a (jg s).1.vars.length b,.slice c (jg s).1.procs.length d])∧VF (jg s).1 (.agg #[.string (jg s).1.modn,.slice a (jg s).1.vars.length b,.slice c (jg s).1.procs.length d]) (hide M' w')∧Ext u w':=by
 obtain⟨a1,c1,a2,c2,a3,c3,d3,d4,d5,d6,Ma,A,⟨m1,b1⟩,-,v1,p1,-,-,hv,hp,hz,hk⟩:=(h.sure hS).ex;refine(Nz.open_any (M:=M') b1 (v1.keeps (ah _ _) fun b o y=>gy.keeps (ah _ _)) p1 hM hz ?_ ?_ hv hp).mono ?_
 ·intro x hx
  unfold dP at hx;obtain⟨y,hy,rfl⟩:=List.mem_map.1 hx;exact hk y (List.mem_filter.1 hy).1
 ·intro x hx
  unfold aP at hx;obtain⟨y,hy,rfl⟩:=List.mem_map.1 hx;exact hk y (List.mem_filter.1 hy).1
 ·rintro e w' ⟨v,rfl,hf,hE⟩
  rw [←zS h0] at hf;have hat:=hf.at_;obtain⟨a,b,c,d,rfl,-⟩:=hf;exact⟨a,b,c,d,rfl,hat,hE⟩
theorem Oq {s:ByteArray} {M:Nat→Bool} {w:World} {D:Nat} (h:n_ M w D s) (h0:(jg s).2.2.1=0):(jg s).1.vars.length+(jg s).1.procs.length<maxLen:=by
 obtain⟨_,_,_,_,_,_,_,_,_,_,_,_,-,-,-,-,-,-,hv,hp,-⟩:=h.ex;rw [zS h0];have h1:=List.length_filter_le (fun v:eY=>v.dR) (dP (aJ s).1.kids);have h2:=List.length_filter_le (fun v:aI=>v.dR) (aP (aJ s).1.kids);simp only
 unfold maxLen;omega
end ord
end Go.Proofs.YtpcihajmcejliacGreatDoor
namespace Go.Proofs.YtpcihajmcejliacGreatDoor
open Go.RowKit
namespace ord
open jf
theorem Hf:∀ (l:List ByteArray) (q:Nat) (L0 L:List (ByteArray×Int)),namesT l q L0=.ok L→
  (∀ s v,dD L0 s=some v→dD L s=some v)∧(∀ (j:Nat) (h:j<l.length),dD L (iz l[j])=some ((q+j:Nat):Int))∧(∀ s v,dD L s=some v→dD L0 s=some v∨∃ (j:Nat) (h:j<l.length),v=((q+j:Nat):Int)∧iz l[j]=s):=by
 intro l;induction l with
 | nil=>intro q L0 L h;cases h;exact⟨fun _ _ h=>h,fun j h=>(by cases h),fun s v h=>.inl h⟩
 | cons x r ih=>
  intro q L0 L h;unfold namesT at h;by_cases hx:(dD L0 (iz x)).isSome=true
  ·rw [if_pos hx] at h;cases h
  ·rw [if_neg hx] at h
   have hnone:dD L0 (iz x)=none:=by cases hq:dD L0 (iz x) with
    | none=>rfl
    | some c=>rw [hq] at hx;exact absurd rfl hx
   obtain⟨h1,h2,h3⟩:=ih (q+1) _ L h;refine⟨fun s v hs=>h1 s v (by rw [pV,hs]),fun j hj=>?_,fun s v hs=>?_⟩
   ·cases j with
    | zero=>exact h1 _ _ (by rw [pV,show (x::r)[0]=x from rfl,hnone];simp)
    | succ j=>
     have:=h2 j (by simpa using hj);rw [show (x::r)[j+1]=r[j]'(by simpa using hj) from rfl,this];congr 2
     omega
   ·rcases h3 s v hs with h4|⟨j,hj,e,hn⟩
    ·rw [pV] at h4
     cases hq:dD L0 s with
     | some c=>rw [hq] at h4;exact .inl h4
     | none=>
      rw [hq] at h4;simp only at h4;by_cases e:iz x=s
      ·rw [if_pos e] at h4
       exact .inr ⟨0,by simp,by simpa using h4.symm,e⟩
      ·rw [if_neg e] at h4;cases h4
    ·exact .inr ⟨j+1,by simpa using hj,by rw [e];congr 1;omega,hn⟩
theorem Hg {L:List (ByteArray×Int)}:∀ (l:List ByteArray) (i:Nat),jC L l i=.ok ()→∀ s∈l,(dD L s).isSome=true:=by
 intro l;induction l with
 | nil=>intro i _ s hs;cases hs
 | cons x r ih=>
  intro i h s hs;unfold jC at h;by_cases hx:(dD L x).isSome=true
  ·rw [if_pos hx] at h
   rcases List.mem_cons.1 hs with rfl|hs
   ·exact hx
   ·exact ih _ h s hs
  ·rw [if_neg hx] at h;cases h
theorem BC {L:List (ByteArray×Int)}:∀ (l:List ByteArray) (i:Nat),f_ L l i=.ok ()→∀ s∈l,∀ t∈ig s,(dD L t).isSome=true:=by
 intro l;induction l with
 | nil=>intro i _ s hs;cases hs
 | cons x r ih=>
  intro i h s hs;unfold f_ at h;obtain⟨u,h1,h2⟩:=qP.bind_ok h;rcases List.mem_cons.1 hs with rfl|hs
  ·exact Hg _ _ h1
  ·exact ih _ h2 s hs
def BD (L:List (ByteArray×Int)) (ts:List ByteArray) (O:List Int):Prop:=∀ (q:Nat) (h:q<O.length),∃ i:Nat,O[q]=(i:Int)∧i<ts.length∧nK L ts (O.take q) i=true
theorem Hh {L:List (ByteArray×Int)} {ts:List ByteArray}:∀ (k:Nat) (out O:List Int),iC L ts k out=.ok O→out.length+k=ts.length→BD L ts out→BD L ts O∧O.length=ts.length:=by
 intro k;induction k with
 | zero=>intro out O h hl h0;cases h;exact⟨h0,by omega⟩
 | succ k ih=>
  intro out O h hl h0;unfold iC at h;cases hp:lT L ts out ts.length 0 with
  | some i=>
   rw [hp] at h;obtain⟨-,h1,h2⟩:=FT _ _ _ hp;refine ih _ _ h (by rw [List.length_append,List.length_singleton];omega) fun q hq=>?_
   by_cases kW:q<out.length
   ·obtain⟨j,e,h3,h4⟩:=h0 q kW
    refine⟨j,by rw [List.getElem_append_left kW];exact e,h3,?_⟩
    rw [List.take_append_of_le_length (by omega)];exact h4
   ·rw [List.length_append,List.length_singleton] at hq
    obtain rfl:q=out.length:=by omega
    refine⟨i,by rw [List.getElem_append_right (Nat.le_refl _)];simp,by omega,?_⟩
    rw [List.take_append_of_le_length (Nat.le_refl _),List.take_length];exact h2
  | none=>
   rw [hp] at h;simp only at h;cases hm:lC out ts.length 0 with
   | some i=>rw [hm] at h;cases h
   | none=>
    exfalso
    have:=BF ts.length out fun i hi=>yL ts.length 0 hm i (Nat.zero_le _) (by omega)
    omega
def pW (ts:List ByteArray) (x:Int):ByteArray:=iz (ts.getD x.toNat ⟨#[]⟩)
theorem BG {ts:List ByteArray} {O:List Int} (h:jD ts=.ok O):O.length=ts.length∧ts.length≤6∧∀ (q:Nat) (hq:q<O.length),∃ (i:Nat) (hi:i<ts.length),O[q]=(i:Int)∧(jg ts[i]).2.2.1=0∧(∀ t∈ig ts[i],t∈(O.take q).map (pW ts))∧iz ts[i] ∉ (O.take q).map (pW ts):=by
 unfold jD at h;by_cases h16:1≤ts.length∧ts.length≤6
 ·rw [if_pos h16] at h
  obtain⟨u,h1,h⟩:=qP.bind_ok h;obtain⟨L,h2,h⟩:=qP.bind_ok h;obtain⟨u3,h3,h⟩:=qP.bind_ok h;obtain⟨O',h4,h⟩:=qP.bind_ok h;obtain⟨u5,h5,h⟩:=qP.bind_ok h;obtain⟨u6,h6,h⟩:=qP.bind_ok h;cases h
  obtain⟨hw,hl⟩:=Hh ts.length [] _ h4 (by simp) (fun q hq=>by cases hq);obtain⟨-,n2,n3⟩:=Hf ts 0 [] L h2
  have hinj:∀ (i j:Nat) (hi:i<ts.length) (hj:j<ts.length),iz ts[i]=iz ts[j]→i=j:=fun i j hi hj e=>by
   have a1:=n2 i hi;have a2:=n2 j hj;rw [e,a2] at a1;have:=Option.some.inj a1;omega
  have hval:∀ (p:Nat) (hp:p<O.length),∃ (j:Nat) (hj:j<ts.length),O[p]=(j:Int)∧pW ts O[p]=iz ts[j]:=fun p hp=>by
   obtain⟨j,e,hj,-⟩:=hw p hp;refine⟨j,hj,e,?_⟩
   unfold pW;rw [e,Int.toNat_natCast,getD_at hj]
  refine⟨hl,h16.2,fun q hq=>?_⟩
  obtain⟨i,e,hi,hr⟩:=hw q hq;unfold nK at hr;rw [getD_at hi,Bool.and_eq_true] at hr;obtain⟨hr1,hr2⟩:=hr;refine⟨i,hi,e,BA ts 0 h1 _ (List.getElem_mem hi),fun t ht=>?_,fun hm=>?_⟩
  ·have hs:=BC ts 0 h3 _ (List.getElem_mem hi) t ht
   have hin:=List.all_eq_true.1 hr1 t ht;cases hv:dD L t with
   | none=>rw [hv] at hs;cases hs
   | some v=>
    rw [hv] at hin;have hmem:=Kv hin;rcases n3 t v hv with h7|⟨j,hj,ev,en⟩
    ·cases h7
    ·refine List.mem_map.2 ⟨v,hmem,?_⟩
     unfold pW;rw [ev,Nat.zero_add,Int.toNat_natCast,getD_at hj,en]
  ·obtain⟨x,hx,ex⟩:=List.mem_map.1 hm
   obtain⟨p,hp,rfl⟩:=List.getElem_of_mem hx;have hp1:p<q:=by rw [List.length_take] at hp;omega
   have hp2:p<O.length:=by omega
   rw [List.getElem_take] at ex hx;obtain⟨j,hj,ej,en⟩:=hval p hp2;rw [en] at ex;have hij:=hinj j i hj hi ex;subst hij
   have hni:inB (O.take q) (j:Int)=true:=by
    unfold inB;rw [List.any_eq_true];exact⟨_,hx,by rw [ej];simp⟩
   rw [hni] at hr2;cases hr2
 ·rw [if_neg h16] at h;cases h
theorem Kw {s:ByteArray} (h:(jg s).2.2.1=0):(jg s).1.modn=iz s:=by rw [zS h]
theorem Ky {s:ByteArray} (h:(jg s).2.2.1=0):(jg s).2.1=ig s:=by
 unfold jg at h ⊢;by_cases h1:(aJ s).2.1=0
 ·rw [if_pos h1] at h ⊢
  by_cases h2:(gQ (aJ s).1.tx (aJ s).1.kids [] [] 1).1=0
  ·rw [if_pos h2];rfl
  ·rw [if_neg h2] at h;exact absurd h h2
 ·rw [if_neg h1] at h;exact absurd h h1
theorem Eo {t:ByteArray} (h:nameB t.data.toList=true):t.size≤24:=by
 unfold nameB jH at h;simp only [Bool.and_eq_true,decide_eq_true_eq] at h;have h2:=h.1.1.2;rw [Array.length_toList] at h2;exact Nat.le_trans h2 (by decide)
theorem Ep {s:ByteArray} (h:(jg s).2.2.1=0):(iz s).size≤24:=by
 have hp:(aJ s).2.1=0:=by
  unfold jg at h;by_cases h1:(aJ s).2.1=0
  ·exact h1
  ·rw [if_neg h1] at h;exact absurd h h1
 obtain⟨hi,hk,-⟩:=wQ s hp;unfold iz;generalize (aJ s).1=x at *;cases x with
 | mk k t m l=>
  obtain rfl:k=1:=hk;cases hi.form with
  | module ht _ _=>exact Eo ht
def BH:ByteArray:=⟨#[109,111,100,117,108,101,32,109,97,105,110,59,112,117,98,32,112,114,111,99,32,109,97,105,110,40,41,108,111,119,123,125]⟩
def Qe:qP (List Int)→Bool
 | .ok l=>decide (l=[0])
 | _=>false
theorem R_ {T:qP (List Int)} (h:Qe T=true):T=.ok [0]:=by
 cases T with
 | no m c=>cases h
 | ok l=>rw [of_decide_eq_true (show decide (l=[0])=true from h)]
theorem Ot:Qe (jD [BH])=true:=by kernel_rfl
theorem Si:jD [BH]=.ok [0]:=R_ Ot
end ord
end Go.Proofs.YtpcihajmcejliacGreatDoor
namespace Go.Proofs.YtpcihajmcejliacGreatDoor
open Go.RowKit
namespace Sj
structure NZ {α : Type} (r:Rz α):Prop where
 out:∀ p,r≠.bad 0 p
theorem pX {α : Type} (x:α):NZ (.ok x):=⟨fun _ h=>by cases h⟩
theorem og {α : Type} {c:Int} (p:Nat) (h:c≠0):NZ (.bad c p:Rz α):=⟨fun _ e=>by cases e;exact h rfl⟩
theorem jP {α β : Type} {r:Rz α} {f:α→Rz β} (h:NZ r) (hf:∀ x,NZ (f x)):NZ (r.bind f):=by
 cases r with
 | bad c p=>exact⟨fun q e=>h.out q (by cases e;rfl)⟩
 | ok x=>exact hf x
theorem qQ {α : Type} {P:Prop} [Decidable P] {a b:Rz α} (ha:NZ a) (hb:NZ b):NZ (if P then a else b):=by
 split
 ·exact ha
 ·exact hb
theorem WC (E:dI) (L:List Loc) (t:ByteArray) (p:Nat):NZ (vY E L t p):=by
 unfold vY;split
 ·exact pX _
 ·split
  ·split
   ·exact pX _
   ·exact og _ (by decide)
  ·exact og _ (by decide)
theorem Sl (E:dI) (ctx:Int) (alone:Bool) (t:ByteArray) (ks:List Tr) (p:Nat):NZ (rV E ctx alone t ks p):=by
 unfold rV FB;split
 ·exact og _ (by decide)
 ·exact qQ (og _ (by decide)) (qQ (og _ (by decide)) (qQ (og _ (by decide)) (qQ (og _ (by decide)) (pX _))))
theorem WE (E:dI) (L:List Loc) (ctx:Int) (alone:Bool) (k:Int) (t:ByteArray) (m:Int) (ks:List Tr) (p:Nat):NZ (ve E L ctx alone k t m ks p):=by
 unfold ve;exact qQ (jP (WC ..) fun r=>qQ (pX _) (og _ (by decide))) (qQ (jP (Sl ..) fun r=>pX _) (pX _))
theorem WG (E:dI) (L:List Loc) (ctx:Int):∀ (l:List Nd),(∀ x∈l,∀ alone p,NZ (x_ E L ctx alone x p))→∀ p,NZ (qZ E L ctx l p):=by
 intro l;induction l with
 | nil=>intro _ p;rw [qZ];exact pX _
 | cons x r ih=>
  intro h p;rw [qZ];exact jP (h x (List.mem_cons_self ..) false p) fun y=>jP (ih (fun z hz=>h z (List.mem_cons_of_mem _ hz)) _) fun ys=>pX _
theorem ad2 (E:dI) (L:List Loc) (ctx:Int):∀ (x:Nd) (alone:Bool) (p:Nat),NZ (x_ E L ctx alone x p):=by
 refine rq fun k t m l ih alone p=>?_
 rw [x_];exact jP (WG E L ctx l ih _) fun ks=>WE ..
theorem WH (pr:aI) (L:List Loc) (deep ctx:Int) (last:Bool) (k:Int) (t:ByteArray) (m:Int) (ks:List Tr) (p:Nat):NZ (uZ pr L deep ctx last k t m ks p):=by
 unfold uZ
 repeat' refine qQ ?_ ?_
 all_goals first
  | exact og _ (by decide)
  | exact pX _
theorem Sm (E:dI) (pr:aI) (ctx:Int) (alone:Bool) (L:List Loc) (deep:Int):∀ (l:List Nd),(∀ x∈l,∀ c o L d p,NZ (zC E pr c o L d x p))→∀ b p,NZ (kT E pr ctx alone L deep l b p):=by
 intro l;induction l with
 | nil=>intro _ b p;rw [kT];exact pX _
 | cons x r ih=>
  intro h b p;rw [kT];exact jP (qQ (h x (List.mem_cons_self ..) ..) (ad2 ..)) fun y=>jP (ih (fun z hz=>h z (List.mem_cons_of_mem _ hz)) _ _) fun ys=>pX _
theorem WI (E:dI) (pr:aI) (ctx:Int) (outer:Bool) (deep:Int):∀ (l:List Nd),(∀ x∈l,∀ c o L d p,NZ (FI E pr c o L d x p))→∀ L p,NZ (wJ E pr ctx outer L deep l p):=by
 intro l;induction l with
 | nil=>intro _ L p;rw [wJ];exact pX _
 | cons x r ih=>
  intro h L p;rw [wJ];exact jP (h x (List.mem_cons_self ..) ..) fun y=>jP (ih (fun z hz=>h z (List.mem_cons_of_mem _ hz)) _ _) fun ys=>pX _
theorem Sr (E:dI) (pr:aI):∀ (x:Nd),(∀ c o L d p,NZ (FI E pr c o L d x p))∧∀ c o L d p,NZ (zC E pr c o L d x p):=by
 refine rq fun k t m l ih=>⟨fun c o L d p=>?_,fun c o L d p=>?_⟩
 ·rw [FI]
  exact jP (Sm E pr c _ L d l (fun x hx=>(ih x hx).2) _ _) fun ks=>WH ..
 ·rw [zC]
  exact jP (WI E pr c o d l (fun x hx=>(ih x hx).1) _ _) fun ks=>pX _
theorem Su (E:dI) (pr:aI) (x:Nd) (p:Nat):NZ (uK E pr x p):=by
 unfold uK;exact jP ((Sr E pr _).2 ..) fun b=>qQ (og _ (by decide)) (pX _)
theorem WJ (own:aQ) (G:List (ByteArray×aQ)):∀ (l:List Nd),(∀ x∈l,x.kd=2∨x.kd=3∨x.kd=4)→∀ K B p,NZ (iy own G l K (aP l) B p):=by
 intro l;induction l with
 | nil=>intro _ K B p;rw [iy];exact pX _
 | cons x r ih=>
  intro h K B p;have ih2:=ih (fun z hz=>h z (List.mem_cons_of_mem _ hz));have hk:=h x (List.mem_cons_self ..);by_cases h4:x.kd=4
  ·have e:aP (x::r)=ry x::aP r:=by unfold aP;rw [List.filter_cons,if_pos (show jO x=true from by unfold jO;simpa using h4)];rfl
   rw [e,iy,if_neg (by omega),if_neg (by omega)];exact jP (Su ..) fun b=>ih2 _ _ _
  ·have e:aP (x::r)=aP r:=by unfold aP;rw [List.filter_cons,if_neg (show ¬ jO x=true from by unfold jO;simpa using h4)]
   rw [e];unfold iy;by_cases h2:x.kd=2
   ·rw [if_pos h2]
    split
    ·exact og _ (by decide)
    ·exact ih2 _ _ _
   ·rw [if_neg h2,if_pos (by omega)]
    exact ih2 _ _ _
theorem Ou {s:ByteArray} {l:List aQ} (h:(jg s).2.2.1=0→∀ x∈(aJ s).1.kids,x.kd=2∨x.kd=3∨x.kd=4):NZ (kX s l):=by
 unfold kX;split
 ·exact og _ (by decide)
 ·by_cases h0:(jg s).2.2.1=0
  ·rw [if_pos h0]
   exact jP (WJ _ _ _ (h h0) _ _ _) fun r=>pX _
  ·rw [if_neg h0]
   exact og _ h0
end Sj
end Go.Proofs.YtpcihajmcejliacGreatDoor
