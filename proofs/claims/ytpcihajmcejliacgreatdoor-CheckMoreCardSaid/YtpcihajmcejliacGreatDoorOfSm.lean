/- Faces, in plain Lean; and how one lies in memory. What the checker makes of a module, in plain Lean: what names are, labels, faults. A map from words to numbers that the call itself has made; must. A map from words to the faces that the call itself has made. All declarations of a module, as they are taken in: three rows that grow side by side, two maps. -/
import Derived.Maps.OwnSet
import Derived.Maps.OwnOps
import Derived.Lib.IndexMore
import Derived.Test.YtpcihajmcejliacGreatDoorLexNumm
import Derived.Test.YtpcihajmcejliacGreatDoorNameMathm
import Derived.Test.YtpcihajmcejliacGreatDoorOfDm
namespace Go.Proofs.YtpcihajmcejliacGreatDoor
open Go.RowKit Go.WideMaps Go.Maps
def oL (n:Int):Bool:=n == 0 || n == 1
def FQ (v:fB):Bool:=v.dX&&oL v.label&&decide (0≤v.size)&&decide (v.size≤64)
def xI (p:aI):Bool:=p.dX&&decide (p.params.length≤5)&&oL p.writes&&oL p.given&&(p.gives || p.given == 0)&&p.params.all oL
def fB.key (v:fB):List UInt8:=v.name.data.toList
def aI.key (p:aI):List UInt8:=p.name.data.toList
def aN.keys (f:aN):List (List UInt8):=f.vars.map fB.key++f.procs.map aI.key
def gQ:List (List UInt8)→Bool
 | []=>true
 | x::r=>!r.contains x&&gQ r
def iG (f:aN):Bool:=
 nameB f.modn.data.toList&&decide (f.vars.length+f.procs.length≤20)&&f.vars.all FQ&&f.procs.all xI&&f.keys.all nameB&&gQ f.keys
namespace face
theorem qo (l:List (List UInt8)) (x:List UInt8):gQ (l ++ [x])=(gQ l && !l.contains x):=by
 induction l with
 | nil=>simp [gQ]
 | cons y r ih=>
  have e1:(r ++ [x]).contains y=(r.contains y || decide (y=x)):=by
   rw [Bool.eq_iff_iff];simp
  have e2:(y::r).contains x=(decide (y=x) || r.contains x):=by
   rw [List.contains_cons,Bool.eq_iff_iff];simp only [Bool.or_eq_true,beq_iff_eq,decide_eq_true_eq];constructor
   ·rintro (h|h)
    ·exact .inl h.symm
    ·exact .inr h
   ·rintro (h|h)
    ·exact .inl h.symm
    ·exact .inr h
  simp only [List.cons_append,gQ,ih,e1,e2];cases r.contains y<;>cases r.contains x<;>cases gQ r<;>cases decide (y=x)<;>rfl
def AV {H:Type} (D:DataW H) (L:List (List UInt8)):Prop:=
 (∀ s,has D (.string s)=L.contains s)∧Maps.size D≤L.length∧(gQ L=decide (Maps.size D=L.length))
theorem FV {H:Type}:AV (.map []:DataW H) []:=⟨fun _=>rfl,Nat.le_refl _,rfl⟩
theorem xK {H:Type} {D:DataW H} {L:List (List UInt8)} (h:AV D L) (ht:Tidy D) (x:List UInt8) (d:DataW H):AV (D.put (.string x) d) (L ++ [x]):=by
 obtain⟨h1,h2,h3⟩:=h;have hk:WideAt.IsKeyLit (.string x):=by trivial
 have hsz:=size_put ht (k:=.string x) d;refine⟨fun s=>?_,?_,?_⟩
 ·by_cases hs:s=x
  ·subst hs
   rw [has_put_same ht.isMap hk];simp
  ·rw [has_put_other (by simpa using hs),h1]
   simp [hs]
 ·rw [hsz,List.length_append]
  simp
  split<;>omega
 ·rw [qo,h3,hsz,h1 x]
  simp only [List.length_append,List.length_singleton];cases hc:L.contains x
  ·simp
  ·simp;omega
theorem vN {α : Type} (p:α→Bool) (l:List α) (k:Nat) (h:k<l.length):(l.take (k+1)).all p=((l.take k).all p&&p l[k]):=by
 rw [List.take_succ_eq_append_getElem h,List.all_append,List.all_cons,List.all_nil,Bool.and_true]
theorem yZ {α : Type} {p:α→Bool} {l:List α} {k:Nat} (h:k<l.length) (hp:p l[k]=false):l.all p=false:=by
 rw [Bool.eq_false_iff];intro ha;rw [List.all_eq_true] at ha;rw [ha _ (List.getElem_mem h)] at hp;cases hp
theorem sN {α : Type} {p:α→Bool} {l:List α} {k:Nat} (h:l.length=k) (hp:(l.take k).all p=true):l.all p=true:=by
 rw [List.take_of_length_le (by omega)] at hp;exact hp
end face
end Go.Proofs.YtpcihajmcejliacGreatDoor
namespace Go.Proofs.YtpcihajmcejliacGreatDoor
open Go.RowKit
structure mG where
 (loc:Int) (modn name:ByteArray) (label size:Int)
inductive Tr where
 | mk (kind num:Int) (kids:List Tr) (ref:mG) (label ctx:Int)
def Tr.kd:Tr→Int
 | .mk k _ _ _ _ _=>k
def Tr.nm:Tr→Int
 | .mk _ m _ _ _ _=>m
def Tr.kids:Tr→List Tr
 | .mk _ _ l _ _ _=>l
def Tr.ref:Tr→mG
 | .mk _ _ _ r _ _=>r
def Tr.lab:Tr→Int
 | .mk _ _ _ _ b _=>b
def Tr.ctx:Tr→Int
 | .mk _ _ _ _ _ c=>c
def gG:mG:=⟨0,aS,aS,0,0⟩
instance:Inhabited Tr:=⟨.mk 0 0 [] gG 0 0⟩
structure Loc where
 (name:ByteArray) (label deep:Int)
structure dH where
 (own:aN) (known:List (ByteArray×aN))
inductive Rz (α : Type) where
 | bad (c:Int) (p:Nat)
 | ok (x:α)
def Rz.bind {α β : Type} (r:Rz α) (f:α→Rz β):Rz β:=match r with
 | .bad c p=>.bad c p
 | .ok x=>f x
def dQ (z:Int) (ls:List Int):Bool:=ls.all fun l=>decide (z=1) || decide (l=0)
def Ff (t:ByteArray):ByteArray×ByteArray×Bool:=(⟨(Lib.cut t.data.toList [46]).1.toArray⟩,⟨(Lib.cut t.data.toList [46]).2.1.toArray⟩,(Lib.cut t.data.toList [46]).2.2)
def bG (L:List (ByteArray×aN)) (s:ByteArray):Option aN:=match L with
 | []=>none
 | (x,f)::r=>if x=s then some f else bG r s
def j_ (E:dH) (t:ByteArray):aN×ByteArray×Bool:=
 if (Ff t).2.2=false then (E.own,t,true) else ((bG E.known (Ff t).1).getD gY,(Ff t).2.1,(bG E.known (Ff t).1).isSome)
def um (L:List Loc) (t:ByteArray):Nat→Option (Nat×Loc)
 | 0=>none
 | n+1=>match L[n]? with
  | some l=>if l.name=t then some (n,l) else um L t n
  | none=>um L t n
def xB (l:List fB) (s:ByteArray):Option fB:=l.find? fun v=>decide (v.name=s)
def nV (l:List aI) (s:ByteArray):Option aI:=l.foldl (fun o p=>if p.name=s then some p else o) none
def uU (E:dH) (L:List Loc) (t:ByteArray) (at_:Nat):Rz mG:=
 match um L t L.length with
 | some (i,l)=>.ok ⟨(i:Nat),aS,aS,l.label,0⟩
 | none=>if (j_ E t).2.2=true then (match xB (j_ E t).1.vars (j_ E t).2.1 with
   | some v=>.ok ⟨-1,(j_ E t).1.modn,(j_ E t).2.1,v.label,v.size⟩
   | none=>.bad 4 at_) else .bad 4 at_
def kU:List Int→List Tr→Bool
 | p::ps,k::ks=>dQ p [k.lab]&&kU ps ks
 | _,_=>true
def DY (fm s:ByteArray) (ctx:Int) (alone:Bool) (ks:List Tr) (at_:Nat):Option aI→Rz (mG×Int)
 | none=>.bad 4 at_
 | some p=>if p.params.length≠ks.length then .bad 6 at_ else if (p.gives || alone)=false then .bad 3 at_
  else if kU p.params ks=false then .bad 7 at_ else if dQ p.writes [ctx]=false then .bad 7 at_
  else .ok (⟨-1,fm,s,0,0⟩,p.given)
def qV (E:dH) (ctx:Int) (alone:Bool) (t:ByteArray) (ks:List Tr) (at_:Nat):Rz (mG×Int):=
 DY (j_ E t).1.modn (j_ E t).2.1 ctx alone ks at_ (if (j_ E t).2.2=true then nV (j_ E t).1.procs (j_ E t).2.1 else none)
def joinL (ks:List Tr):Int:=ks.foldl (fun a y=>iM a y.lab) 0
def ug (E:dH) (L:List Loc) (ctx:Int) (alone:Bool) (k:Int) (t:ByteArray) (m:Int) (ks:List Tr) (at_:Nat):Rz Tr:=
 if k=16∨k=17 then (uU E L t at_).bind fun r=>if decide (0<r.size)=decide (k=17) then .ok (.mk k m ks r (iM (joinL ks) r.label) ctx) else .bad 3 at_
 else if k=18 then (qV E ctx alone t ks at_).bind fun r=>.ok (.mk k m ks r.1 r.2 ctx)
 else .ok (.mk k m ks gG (joinL ks) ctx)
mutual
def wY (E:dH) (L:List Loc) (ctx:Int):Bool→Nd→Nat→Rz Tr
 | alone,.mk k t m l,at_=>(qG E L ctx l (at_+1)).bind fun ks=>ug E L ctx alone k t m ks at_
def qG (E:dH) (L:List Loc) (ctx:Int):List Nd→Nat→Rz (List Tr)
 | [],_=>.ok []
 | x::r,at_=>(wY E L ctx false x at_).bind fun y=>(qG E L ctx r (at_+fP x)).bind fun ys=>.ok (y::ys)
end
def iD (x:Tr):Int:=if x.kd=17 then (x.kids.headD default).lab else 0
def t_ (pr:aI) (L:List Loc) (deep ctx:Int) (last:Bool) (k:Int) (t:ByteArray) (m:Int) (ks:List Tr) (at_:Nat):Rz (Tr×List Loc):=
 if k=7 then
  if (L.any fun l=>decide (l.deep=deep)&&decide (l.name=t))=true then .bad 5 at_
  else if 20≤L.length then .bad 1 at_
  else if dQ m [(ks.headD default).lab,ctx]=false then .bad 7 at_
  else .ok (.mk k m ks ⟨(L.length:Nat),aS,aS,m,0⟩ 0 ctx,L ++ [⟨t,m,deep⟩])
 else if k=8 then
  if dQ (ks.headD default).ref.label [((ks.tail).headD default).lab,iD (ks.headD default),ctx]=false then .bad 7 at_ else .ok (.mk k m ks gG 0 ctx,L)
 else if k=12 then
  if dQ m [(ks.headD default).lab,ctx]=false then .bad 7 at_ else .ok (.mk k m ks gG 0 ctx,L)
 else if k=13 then
  if dQ m [ctx]=false then .bad 7 at_ else if dQ (ks.headD default).ref.label [m,iD (ks.headD default),ctx]=false then .bad 7 at_ else .ok (.mk k m ks gG 0 ctx,L)
 else if k=14 then
  if (last&&pr.gives)=false then .bad 2 at_ else if dQ pr.given [(ks.headD default).lab]=false then .bad 7 at_ else .ok (.mk k m ks gG 0 ctx,L)
 else .ok (.mk k m ks gG 0 ctx,L)
mutual
def D5 (E:dH) (pr:aI) (ctx:Int) (last:Bool):List Loc→Int→Nd→Nat→Rz (Tr×List Loc)
 | L,deep,.mk k t m l,at_=>(kz E pr ctx (decide (k=9)) L deep l none (at_+1)).bind fun ks=>t_ pr L deep ctx last k t m ks at_
/-- a statement's kids; the label of the first -/
def kz (E:dH) (pr:aI) (ctx:Int) (alone:Bool):List Loc→Int→List Nd→Option Int→Nat→Rz (List Tr)
 | _,_,[],_,_=>.ok []
 | L,deep,x::r,b,at_=>(if x.kd=6 then yE E pr (iM ctx (b.getD 0)) false L (deep+1) x at_ else wY E L ctx alone x at_).bind fun y=>
   (kz E pr ctx alone L deep r (some (b.getD y.lab)) (at_+fP x)).bind fun ys=>.ok (y::ys)
def yE (E:dH) (pr:aI) (ctx:Int) (outer:Bool):List Loc→Int→Nd→Nat→Rz Tr
 | L,deep,.mk k _ _ l,at_=>(uQ E pr ctx outer L deep l (at_+1)).bind fun ks=>.ok (.mk k 0 ks gG 0 ctx)
def uQ (E:dH) (pr:aI) (ctx:Int) (outer:Bool):List Loc→Int→List Nd→Nat→Rz (List Tr)
 | _,_,[],_=>.ok []
 | L,deep,x::r,at_=>(D5 E pr ctx (outer&&r.isEmpty) L deep x at_).bind fun y=>(uQ E pr ctx outer y.2 deep r (at_+fP x)).bind fun ys=>.ok (y.1::ys)
end
def rq (ps:List Nd):List Loc:=ps.map fun p=>⟨p.tx,p.nm,1⟩
def tJ (E:dH) (pr:aI) (x:Nd) (at_:Nat):Rz Tr:=
 (yE E pr pr.writes true (rq x.kids.dropLast) 1 (x.kids.getLastD jf) (at_+1+x.kids.dropLast.length)).bind fun b=>
  if (pr.gives && !(match (x.kids.getLastD jf).kids.getLast? with
   | some s=>decide (s.kd=14)
   | none=>false))=true then .bad 2 at_ else .ok b
def gu (own:aN) (G:List (ByteArray×aN)):List Nd→List (ByteArray×aN)→List aI→List (aI×Tr)→Nat→Rz (List (ByteArray×aN)×List (aI×Tr))
 | [],K,_,B,_=>.ok (K,B)
 | x::r,K,ps,B,at_=>
  if x.kd=2 then (match bG G x.tx with
   | none=>.bad 4 at_
   | some f=>gu own G r (K ++ [(x.tx,f)]) ps B (at_+1))
  else if x.kd=3 then gu own G r K ps B (at_+(1+x.kids.length))
  else match ps with
   | []=>.bad 0 at_
   | p::q=>(tJ ⟨own,K⟩ p x at_).bind fun b=>gu own G r K q (B ++ [(p,b)]) (at_+fP x)
def gy:List aN→List (ByteArray×aN)→Option (List (ByteArray×aN))
 | [],G=>some G
 | f::r,G=>if (bG G f.modn).isSome=true∨iG f=false then none else gy r (G ++ [(f.modn,f)])
def fN (s:ByteArray) (l:List aN):Rz (Nd×List (ByteArray×aN)×List (aI×Tr)):=
 match gy l [] with
 | none=>.bad 2 0
 | some G=>if (qB s).2.2.1=0 then
   (gu ⟨(aT s).1.tx,fH (aT s).1.kids,aY (aT s).1.kids⟩ G (aT s).1.kids [] (aY (aT s).1.kids) [] 1).bind fun r=>.ok ((aT s).1,r)
  else .bad (qB s).2.2.1 (qB s).2.2.2.toNat
end Go.Proofs.YtpcihajmcejliacGreatDoor
namespace Go.Proofs.YtpcihajmcejliacGreatDoor
open Go.RowKit Go.WideMaps Go.Maps
def jW (L:List (ByteArray×Int)) (s:ByteArray):Option Int:=match L with
 | []=>none
 | (x,v)::r=>if x=s then some v else jW r s
def eU (L:List (ByteArray×Int)):List (List UInt8):=L.map fun p=>p.1.data.toList
namespace oV
theorem keyed:Keyed Tryz.prog 9:=string_keyed Tryz.underlying9
theorem Vw (w:World):(zeroValue 3).run Tryz.prog w=.ok (.int .i64 0) w:=by kernel_rfl
theorem JK (L:List (ByteArray×Int)) (x s:ByteArray) (v:Int):jW (L ++ [(x,v)]) s=match jW L s with
  | some c=>some c
  | none=>if x=s then some v else none:=by
 induction L with
 | nil=>simp [jW]
 | cons p r ih=>
  obtain⟨y,c⟩:=p;simp only [List.cons_append,jW];by_cases hy:y=s
  ·simp [hy]
  ·rw [if_neg hy,if_neg hy,ih]
theorem vH (L:List (ByteArray×Int)) (s:ByteArray):(jW L s).isSome=(eU L).contains s.data.toList:=by
 induction L with
 | nil=>rfl
 | cons p r ih=>
  obtain⟨y,c⟩:=p;simp only [jW,eU,List.map_cons,List.contains_cons];by_cases hy:y=s
  ·simp [hy]
  ·rw [if_neg hy,ih]
   have:¬ s.data.toList=y.data.toList:=fun e=>hy (ByteArray.ext (Array.toList_inj.1 e.symm))
   have h2:(s.data.toList == y.data.toList)=false:=beq_eq_false_iff_ne.2 this;rw [h2,Bool.false_or];rfl
def kD (w:World) (b:Nat) (L:List (ByteArray×Int)):Prop:=
 ∃ (D:DataW Unit),w.ownsMap Tryz.prog 9 (plainElem Tryz.prog 3) b L.length D∧Maps.size D=L.length∧
  ∀ s:ByteArray,has D (.string s.data.toList)=(jW L s).isSome∧∀ c:Int,D.atKey (.string s.data.toList) (.lit (.int .i64 0))=.lit (.int .i64 c)→c=(jW L s).getD 0
theorem kD.lt {w:World} {b:Nat} {L:List (ByteArray×Int)} (h:kD w b L):b<w.heap.size:=by
 obtain⟨D,h1,_⟩:=h;exact h1.lt
theorem kD.aO {w w':World} {b:Nat} {L:List (ByteArray×Int)} (h:kD w b L) {S:Nat→Prop} (hC:aB S w w') (hn:¬ S b):kD w' b L:=by
 obtain⟨D,⟨es,clock,hb,F,hs,hD⟩,h2⟩:=h;exact⟨D,⟨es,clock,(hC.block b (Array.getElem?_eq_some_iff.1 hb).1 hn).trans hb,F,hs,hD⟩,h2⟩
theorem kD.drewN {w:World} {b:Nat} {L:List (ByteArray×Int)} (h:kD w b L) (n:Nat):kD (w.drewN n) b L:=h
theorem kD.made (w:World):kD (w.alloc (.map #[] 0)) w.heap.size []:=by
 refine⟨.map [],World.ownsMap_made _ _ _ _,rfl,fun s=>⟨rfl,fun c h=>?_⟩⟩
 rw [WideAt.atKey_none _ (by simp)] at h;simp at h
 simp [jW];exact h.symm
theorem kD.put {w:World} {b:Nat} {L:List (ByteArray×Int)} (h:kD w b L) {x:ByteArray} {v:Int} (hx:jW L x=none) (hs:x.size≤maxLen) (hl:L.length<maxLen) (hv0:0≤v) (hv:v<9223372036854775808) :
  ∃ w',(Instr.mapUpdate 126 (.map (some b)) (.string x) (.int .i64 v)).run Tryz.prog w=.ok () w'∧kD w' b (L ++ [(x,v)])∧w.grownBy w' (some b):=by
 obtain⟨D,hown,hsz,h2⟩:=h;have hkey:=keyOf_string_mk (P:=Tryz.prog) (k:=9) Tryz.underlying9 hs
 have hwf:(Lit.int .i64 v).wf=true:=by
  simp only [Lit.wf,Bool.and_eq_true,decide_eq_true_eq,show IntKind.i64.min=-9223372036854775808 from rfl,show IntKind.i64.max=9223372036854775807 from rfl];omega
 obtain⟨w',hrun,hM,hg⟩:=hown.update (t:=126) keyed Tryz.underlying126 hl hkey (plainElem_int (P:=Tryz.prog) (q:=.i64) Tryz.underlying3 (a:=v) hwf);have hk:WideAt.IsKeyLit (.string x.data.toList):=by trivial
 refine⟨w',hrun,⟨_,by rw [List.length_append];exact hM,?_,fun s=>?_⟩,hg⟩
 ·rw [size_put (hown.tidy keyed),(h2 x).1,hx,hsz]
  simp
 rw [JK];by_cases e:x=s
 ·subst e
  rw [has_put_same hown.isMap hk,hx];refine⟨by simp,fun c hc=>?_⟩
  rw [atKey_put_same hown.isMap hk] at hc;simp at hc ⊢
  exact hc.symm
 ·have hne:(Lit.string s.data.toList)≠.string x.data.toList:=by
   intro h;exact e (ByteArray.ext (Array.ext' (by simpa using h.symm)))
  rw [has_put_other hne,(h2 s).1];refine⟨by cases jW L s<;>simp [e],fun c hc=>?_⟩
  rw [atKey_put_other hne] at hc;rw [(h2 s).2 c hc];cases jW L s<;>simp [e]
theorem kD.look {w:World} {b:Nat} {L:List (ByteArray×Int)} (h:kD w b L) {s:ByteArray} (hs:s.size≤maxLen) :
  (Instr.lookup 126 (.map (some b)) (.string s) true).run Tryz.prog w=.ok (.tuple #[.int .i64 ((jW L s).getD 0),.bool (jW L s).isSome]) w:=by
 obtain⟨D,hown,-,h2⟩:=h;have hkey:=keyOf_string_mk (P:=Tryz.prog) (k:=9) Tryz.underlying9 hs;obtain⟨v,ps,hrun2,hv⟩:=hown.look_ok (t:=126) keyed Tryz.underlying126 (Vw w) (plainElem_int (P:=Tryz.prog) (q:=.i64) Tryz.underlying3 (a:=0) (by decide)) hkey;obtain⟨c2,rfl,hc2,-⟩:=plainElem_int_inv Tryz.underlying3 hv;simp only [Prod.mk.injEq] at hc2;rw [(h2 s).2 c2 hc2.1,(h2 s).1] at hrun2;exact hrun2
theorem kD.len {w:World} {b:Nat} {L:List (ByteArray×Int)} (h:kD w b L) (ty:TypeId):(Builtin.len_ #[126] ty #[.map (some b)]).run Tryz.prog w=.ok (.int .i64 (L.length:Nat)) w:=by
 obtain⟨D,hown,hsz,-⟩:=h;rw [←hsz];exact hown.len (t:=126) Tryz.underlying126 ty
def ve (c p:Int):List PanicEntry:=[{ v:=.iface 225 (.agg #[.int .i64 c,.int .i64 p]),recovered:=false }]
set_option maxRecDepth 100000 in
theorem dK (c p:Int) (w:World):Calls Tryz.prog 112 #[.bool true,.int .i64 c,.int .i64 p] w fun e w'=>e=.returned (.tuple #[])∧w'=w:=by
 go_enter Tryz.func112,Tryz.ntmps112
 go_wp2_with fail
 go_end0
 exact⟨rfl,rfl⟩
set_option maxRecDepth 100000 in
theorem eY (c p:Int) (w:World):Calls Tryz.prog 112 #[.bool false,.int .i64 c,.int .i64 p] w fun e w'=>e=.panicked (ve c p)∧w'=w:=by
 go_enter Tryz.func112,Tryz.ntmps112
 go_wp2_with fail
 exact⟨rfl,rfl,rfl⟩
end oV
end Go.Proofs.YtpcihajmcejliacGreatDoor
namespace Go.Proofs.YtpcihajmcejliacGreatDoor
open Go.RowKit Go.WideMaps Go.Maps
def wH:Value:=.agg #[.string ⟨#[]⟩,.slice none 0 0,.slice none 0 0]
namespace n_
def RV (v:Value):Option (DataW Value×List MemPlace):=some (.held v,[])
def uw (w:World) (b n:Nat) (f:ByteArray→Option Value):Prop:=
 ∃ (D:DataW Value),w.ownsMap Tryz.prog 9 RV b n D∧∀ s:ByteArray,has D (.string s.data.toList)=(f s).isSome∧D.atKey (.string s.data.toList) (.held wH)=.held ((f s).getD wH)
theorem uw.aO {w w':World} {b n:Nat} {f:ByteArray→Option Value} (h:uw w b n f) {S:Nat→Prop} (hC:aB S w w') (hn:¬ S b):uw w' b n f:=by
 obtain⟨D,⟨es,clock,hb,F,hs,hD⟩,h2⟩:=h;exact⟨D,⟨es,clock,(hC.block b (Array.getElem?_eq_some_iff.1 hb).1 hn).trans hb,F,hs,hD⟩,h2⟩
theorem uw.made (w:World):uw (w.alloc (.map #[] 0)) w.heap.size 0 (fun _=>none):=by
 refine⟨.map [],World.ownsMap_made _ _ _ _,fun s=>⟨rfl,?_⟩⟩
 rw [WideAt.atKey_none _ (by simp)];rfl
theorem Gt (w:World):(zeroValue 37).run Tryz.prog w=.ok wH w:=by kernel_rfl
theorem uw.put {w:World} {b n:Nat} {f:ByteArray→Option Value} (h:uw w b n f) {x:ByteArray} (v:Value) (hs:x.size≤maxLen) (hn:n<maxLen) :
  ∃ w',(Instr.mapUpdate 211 (.map (some b)) (.string x) v).run Tryz.prog w=.ok () w'∧uw w' b (n+1) (fun s=>if s=x then some v else f s)∧w.grownBy w' (some b):=by
 obtain⟨D,hown,h2⟩:=h;have hkey:=keyOf_string_mk (P:=Tryz.prog) (k:=9) Tryz.underlying9 hs;obtain⟨w',hrun,hM,hg⟩:=hown.update (t:=211) oV.keyed Tryz.underlying211 hn hkey (show RV v=some (.held v,[]) from rfl);have hk:WideAt.IsKeyLit (.string x.data.toList):=by trivial
 refine⟨w',hrun,⟨_,hM,fun s=>?_⟩,hg⟩
 show has _ _=(if s=x then some v else f s).isSome∧_=DataW.held ((if s=x then some v else f s).getD wH)
 by_cases e:s=x
 ·subst e
  rw [if_pos rfl,has_put_same hown.isMap hk,atKey_put_same hown.isMap hk];exact⟨rfl,rfl⟩
 ·have hne:(Lit.string s.data.toList)≠.string x.data.toList:=fun h=>e (ByteArray.ext (Array.toList_inj.1 (by injection h)))
  rw [if_neg e,has_put_other hne,atKey_put_other hne];exact h2 s
set_option maxRecDepth 100000 in
theorem uw.look {w:World} {b n:Nat} {f:ByteArray→Option Value} (h:uw w b n f) {s:ByteArray} (hs:s.size≤maxLen) :
  (Instr.lookup 211 (.map (some b)) (.string s) true).run Tryz.prog w=.ok (.tuple #[(f s).getD wH,.bool (f s).isSome]) w:=by
 obtain⟨D,hown,h2⟩:=h;have hz0:=Gt w;obtain⟨z,hzz⟩:∃ z,wH=z:=⟨_,rfl⟩;rw [hzz] at h2 hz0 ⊢;have hz:RV z=some (.held z,[]):=rfl;have hkey:=keyOf_string_mk (P:=Tryz.prog) (k:=9) Tryz.underlying9 hs;obtain⟨v,ps,hrun,hv⟩:=hown.look_ok (t:=211) oV.keyed Tryz.underlying211 hz0 hz hkey;rw [(h2 s).2] at hv;rw [(h2 s).1] at hrun;unfold RV at hv;injection hv with hv
 injection hv with hv _
 injection hv with hv
 subst hv;exact hrun
def ni (W w:World) (b n:Nat) (K:List (ByteArray×aN)):Prop:=
 ∃ f,uw w b n f∧∀ s,match bG K s with
  | none=>f s=none
  | some x=>∃ v,f s=some v∧eC W x v
theorem ni.aO {W w w':World} {b n:Nat} {K:List (ByteArray×aN)} (h:ni W w b n K) {S:Nat→Prop} (hC:aB S w w') (hn:¬ S b):ni W w' b n K:=by
 obtain⟨f,h1,h2⟩:=h;exact⟨f,h1.aO hC hn,h2⟩
theorem ni.base {W W' w:World} {b n:Nat} {K:List (ByteArray×aN)} (h:ni W w b n K) (hE:Ext W W'):ni W' w b n K:=by
 obtain⟨f,h1,h2⟩:=h;refine⟨f,h1,fun s=>?_⟩
 have:=h2 s;cases hk:bG K s with
 | none=>rw [hk] at this;exact this
 | some x=>rw [hk] at this;obtain⟨v,h3,h4⟩:=this;exact⟨v,h3,h4.ext hE⟩
theorem ni.made (W w:World):ni W (w.alloc (.map #[] 0)) w.heap.size 0 []:=⟨_,uw.made w,fun _=>rfl⟩
theorem vC (K:List (ByteArray×aN)) (x s:ByteArray) (g:aN):bG (K ++ [(x,g)]) s=(bG K s).or (if x=s then some g else none):=by
 induction K with
 | nil=>simp [bG]
 | cons p r ih=>
  obtain⟨y,c⟩:=p;simp only [List.cons_append,bG];by_cases hy:y=s
  ·simp [hy]
  ·rw [if_neg hy,if_neg hy,ih]
theorem ni.put {W w:World} {b n:Nat} {K:List (ByteArray×aN)} (h:ni W w b n K) {x:ByteArray} {v:Value} {g:aN} (hv:eC W g v) (hx:bG K x=none∨bG K x=some g) (hs:x.size≤maxLen) (hn:n<maxLen) :
  ∃ w',(Instr.mapUpdate 211 (.map (some b)) (.string x) v).run Tryz.prog w=.ok () w'∧ni W w' b (n+1) (K ++ [(x,g)])∧w.grownBy w' (some b):=by
 obtain⟨f,h1,h2⟩:=h;obtain⟨w',hr,hM,hg⟩:=h1.put v hs hn;refine⟨w',hr,⟨_,hM,fun s=>?_⟩,hg⟩
 rw [vC];have h3:=h2 s;by_cases e:s=x
 ·subst e
  rw [if_pos rfl];rcases hx with hx|hx
  ·rw [hx];exact⟨v,if_pos rfl,hv⟩
  ·rw [hx];exact⟨v,if_pos rfl,hv⟩
 ·rw [if_neg (fun h=>e h.symm),Option.or_none]
  cases hk:bG K s with
  | none=>rw [hk] at h3;simpa only [if_neg e] using h3
  | some y=>rw [hk] at h3;simpa only [if_neg e] using h3
theorem ni.look {W w:World} {b n:Nat} {K:List (ByteArray×aN)} (h:ni W w b n K) {s:ByteArray} (hs:s.size≤maxLen) :
  ∃ v,(Instr.lookup 211 (.map (some b)) (.string s) true).run Tryz.prog w=.ok (.tuple #[v,.bool (bG K s).isSome]) w∧eC W ((bG K s).getD gY) v:=by
 obtain⟨f,h1,h2⟩:=h;have hl:=h1.look hs;have h3:=h2 s;cases hk:bG K s with
 | none=>
  rw [hk] at h3;rw [h3] at hl;exact⟨wH,hl,⟨none,0,none,0,rfl,fun j h=>(by cases h),fun j h=>(by cases h),by decide,Nat.le_refl _,by decide,Nat.le_refl _,by decide⟩⟩
 | some x=>
  rw [hk] at h3;obtain⟨v,h4,h5⟩:=h3;rw [h4] at hl;exact⟨v,hl,h5⟩
end n_
end Go.Proofs.YtpcihajmcejliacGreatDoor
namespace Go.Proofs.YtpcihajmcejliacGreatDoor
open Go.RowKit
namespace dn
theorem jV {α : Type} {k:Nat} {E:TypeId} {V:α→Value→World→Prop} {B:Nat} {w w':World} {row:Value} {acc:List α} (h:Grow k E V B w row acc) (hV:∀ x u w w',V x u w→V x u w') {S:Nat→Prop} (hC:aB S w w') (hO:∀ i,row.ownBlock=some i→¬ S i):Grow k E V B w' row acc:=by
 obtain⟨us,h1,⟨h2,h4⟩,h3⟩:=h.ex;refine⟨us,h1,⟨h2,?_⟩,fun j hj hj'=>⟨hV _ _ _ _ (h3 j hj hj').1,(h3 j hj hj').2⟩⟩
 rcases h4 with h4|⟨g,cap,cur,hv,hg,hh,r⟩
 ·exact .inl h4
 ·refine .inr ⟨g,cap,cur,hv,hg,?_,r⟩
  rw [hC.block g (Array.getElem?_eq_some_iff.1 hh).1 (hO g (by rw [hv];rfl))];exact hh
theorem rC (x:ByteArray) (u:Value) (w w':World) (h:AP x u w):AP x u w':=h
theorem kO (x:fB) (u:Value) (w w':World) (h:wF x u w):wF x u w':=h
theorem mM {α : Type} {k:Nat} {E:TypeId} {V:α→Value→World→Prop} {B:Nat} {w:World} {row:Value} {acc:List α} (h:Grow k E V B w row acc) (hV:∀ x u w w',V x u w→V x u w') (X:Nat→Bool):je X k E V B w row acc:=by
 obtain⟨us,h1,h2,h3⟩:=h.ex;exact⟨us,h1,h2,fun j hj hj'=>⟨hV _ _ _ _ (h3 j hj hj').1,(h3 j hj hj').2⟩⟩
theorem yX {α : Type} {X:Nat→Bool} {k:Nat} {E:TypeId} {V:α→Value→World→Prop} {B:Nat} {w:World} {row:Value} {acc:List α} (h:je X k E V B w row acc) (hV:∀ x u w w',V x u w→V x u w'):Grow k E V B w row acc:=by
 obtain⟨us,h1,h2,h3⟩:=h.ex;exact⟨us,h1,h2,fun j hj hj'=>⟨hV _ _ _ _ (h3 j hj hj').1,(h3 j hj hj').2⟩⟩
structure Three (B:Nat) (u:World) (rv rp ri:Value) (vs:List fB) (ps:List aI) (is:List ByteArray):Prop where
 gv:Grow 4 70 wF B u rv vs
 gi:Grow 1 9 AP B u ri is
 gp:je (fun i=>ownB rv i || ownB ri i) 6 68 pF B u rp ps
 vp:∀ i,rv.ownBlock=some i→rp.ownBlock≠some i
 vi:∀ i,rv.ownBlock=some i→ri.ownBlock≠some i
 pi:∀ i,rp.ownBlock=some i→ri.ownBlock≠some i
theorem Three.nil (B:Nat) (u:World):Three B u (.slice none 0 0) (.slice none 0 0) (.slice none 0 0) [] [] []:=
 ⟨Grow.nil _ _ _ _ _,Grow.nil _ _ _ _ _,su _ _ _ _ _ _,fun i e=>(by cases e),fun i e=>(by cases e),fun i e=>(by cases e)⟩
theorem Three.aO {B:Nat} {u u':World} {rv rp ri:Value} {vs:List fB} {ps:List aI} {is:List ByteArray} (h:Three B u rv rp ri vs ps is) {S:Nat→Prop} (hC:aB S u u') (hS:∀ i,S i→i<B):Three B u' rv rp ri vs ps is:=
 ⟨h.gv.aO gK hC hS,h.gi.aO pV hC hS,eG h.gp gZ hC (fun i hi=>.inl (hS i hi)) (fun i e hs=>by have:=bH h.gp i e;have:=hS i hs;omega) (fun i e=>.inl e),h.vp,h.vi,h.pi⟩
theorem Three.ext {B:Nat} {u u':World} {rv rp ri:Value} {vs:List fB} {ps:List aI} {is:List ByteArray} (h:Three B u rv rp ri vs ps is) (hE:Ext u u'):Three B u' rv rp ri vs ps is:=h.aO hE fun _ e=>e.elim
theorem Three.ED {B:Nat} {u u':World} {rv rp ri r:Value} {vs vs':List fB} {ps:List aI} {is:List ByteArray} (h:Three B u rv rp ri vs ps is) (hG:Grow 4 70 wF B u' r vs') (hC:aB (fun i=>rv.ownBlock=some i) u u') (ha:∀ i,r.ownBlock=some i→rv.ownBlock=some i∨u.heap.size≤i):Three B u' r rp ri vs' ps is:=by
 refine⟨hG,jV h.gi rC hC (fun i hi hs=>h.vi i hs hi),eG h.gp gZ hC (fun i hi=>.inr (by simp [ownB,hi])) (fun i e hs=>h.vp i hs e) (fun i e=>?_),fun i hi e=>?_,fun i hi e=>?_,h.pi⟩
 ·simp only [Bool.or_eq_true,ownB,decide_eq_true_eq] at e ⊢
  rcases e with e|e
  ·rcases ha i e with e|e
   ·exact .inl (.inl e)
   ·exact .inr e
  ·exact .inl (.inr e)
 ·rcases ha i hi with h1|h1
  ·exact h.vp i h1 e
  ·have:=bH h.gp i e;omega
 ·rcases ha i hi with h1|h1
  ·exact h.vi i h1 e
  ·have:=bh h.gi i e;omega
theorem Three.JJ {B:Nat} {u u':World} {rv rp ri r:Value} {vs:List fB} {ps ps':List aI} {is:List ByteArray} (h:Three B u rv rp ri vs ps is) (hG:je (fun i=>ownB rv i || ownB ri i) 6 68 pF B u' r ps') (hC:aB (fun i=>rp.ownBlock=some i) u u') (ha:∀ i,r.ownBlock=some i→rp.ownBlock=some i∨u.heap.size≤i):Three B u' rv r ri vs ps' is:=by
 refine⟨jV h.gv kO hC (fun i hi hs=>h.vp i hi hs),jV h.gi rC hC (fun i hi hs=>h.pi i hs hi),hG,fun i hi e=>?_,h.vi,fun i hi e=>?_⟩
 ·rcases ha i e with h1|h1
  ·exact h.vp i hi h1
  ·have:=bh h.gv i hi;omega
 ·rcases ha i hi with h1|h1
  ·exact h.pi i h1 e
  ·have:=bh h.gi i e;omega
theorem Three.Uo {B:Nat} {u u':World} {rv rp ri r:Value} {vs:List fB} {ps:List aI} {is is':List ByteArray} (h:Three B u rv rp ri vs ps is) (hG:Grow 1 9 AP B u' r is') (hC:aB (fun i=>ri.ownBlock=some i) u u') (ha:∀ i,r.ownBlock=some i→ri.ownBlock=some i∨u.heap.size≤i):Three B u' rv rp r vs ps is':=by
 refine⟨jV h.gv kO hC (fun i hi hs=>h.vi i hi hs),hG,eG h.gp gZ hC (fun i hi=>.inr (by simp [ownB,hi])) (fun i e hs=>h.pi i e hs) (fun i e=>?_),h.vp,fun i hi e=>?_,fun i hi e=>?_⟩
 ·simp only [Bool.or_eq_true,ownB,decide_eq_true_eq] at e ⊢
  rcases e with e|e
  ·exact .inl (.inl e)
  ·rcases ha i e with e|e
   ·exact .inl (.inr e)
   ·exact .inr e
 ·rcases ha i e with h1|h1
  ·exact h.vi i hi h1
  ·have:=bh h.gv i hi;omega
 ·rcases ha i e with h1|h1
  ·exact h.pi i hi h1
  ·have:=bH h.gp i hi;omega
def eu {α : Type} (B:World→Value→Value→List α→Prop) (X:Nat→Bool) (V:α→Value→World→Prop) (base:Nat) (T:TypeId) (row:Value) (acc:List α) (x:α) (v:Value):List Value→World→Prop
 | [],u=>B u row row acc∧V x v (hide (fun i=>bM base row i || X i) u)
 | [s],u=>B u row row acc∧V x v (hide (fun i=>bM base row i || X i) u)∧∃ g,s=.slice (some ⟨g,0,none⟩) 1 1∧aH u g v.cells T∧row.ownBlock≠some g
 | [_,r],u=>B u row r (acc ++ [x])∧∃ g c,r=.slice (some ⟨g,0,none⟩) (acc.length+1) c
 | [_,r,_],u=>B u r r (acc ++ [x])
 | _,_=>False
theorem eu.B {α : Type} {B:World→Value→Value→List α→Prop} {X:Nat→Bool} {V:α→Value→World→Prop} {base:Nat} {T:TypeId} {row:Value} {acc:List α} {x:α} {v:Value} {vs:List Value} {u:World} (h:eu B X V base T row acc x v vs u) (hv:vs.length≤1):B u row row acc:=by
 match vs,hv,h with
 | [],_,h=>exact h.1
 | [_],_,h=>exact h.1
theorem eu.any {α : Type} {B:World→Value→Value→List α→Prop} {X:Nat→Bool} {V:α→Value→World→Prop} {base:Nat} {T:TypeId} {row:Value} {acc:List α} {x:α} {v:Value} {vs:List Value} {u:World} (h:eu B X V base T row acc x v vs u):∃ rN r l,B u rN r l:=by
 match vs,h with
 | [],h=>exact⟨_,_,_,h.1⟩
 | [_],h=>exact⟨_,_,_,h.1⟩
 | [_,_],h=>exact⟨_,_,_,h.1⟩
 | [_,_,_],h=>exact⟨_,_,_,h⟩
theorem fF {α : Type} {B:World→Value→Value→List α→Prop} {X:Nat→Bool} {V:α→Value→World→Prop} {base:Nat} {T:TypeId} {row:Value} {acc:List α} {x:α} {v:Value} {u:World} (hV:∀ x u w w',bZ w w'→V x u w→V x u w') (hE:∀ u',Ext u u'→B u' row row acc)
  (hown:∀ i,row.ownBlock=some i→i<u.heap.size) (h:eu B X V base T row acc x v [] u) {c:Array Value} (hc:v.cells=c):eu B X V base T row acc x v [.slice (some ⟨u.heap.size,0,none⟩) 1 1] (u.alloc (.cells c T)):=by
 have hX:=(aB.refl (fun _=>False) u).alloc (.cells c T);exact⟨hE _ hX,hV _ _ _ _ (aC hX fun _ _ h=>h.elim) h.2,_,rfl,by rw [hc];exact aH.made _ _ _,fun e=>by have:=hown _ e;omega⟩
theorem eF {α : Type} {B:World→Value→Value→List α→Prop} {X:Nat→Bool} {V:α→Value→World→Prop} {base k:Nat} {T:TypeId} {row:Value} {acc:List α} {x:α} {v s:Value} {u u':World} {us:List Value} (hV:∀ x u w w',bZ w w'→V x u w→V x u w')
  (h:eu B X V base T row acc x v [s] u) (hus:us.length=acc.length) (hu3:∀ j (h:j<acc.length) (h':j<us.length),V acc[j] us[j] (hide (fun i=>bM base row i || X i) u)∧us[j].cells.size=k) (hk:v.cells.size=k) {g c:Nat}
  (hM:∀ r sD,je X k T V base u' r sD→aB (fun i=>row.ownBlock=some i) u u'→(∀ i,r.ownBlock=some i→row.ownBlock=some i∨u.heap.size≤i)→B u' row r sD)
  (ho:u'.ownsRow base T k (.slice (some ⟨g,0,none⟩) (acc.length+1) c) (acc.length+1) (us.flatMap (fun u=>u.cells.toList)++v.cells.toList)) (hg:u.grownBy u' row.ownBlock) (ha:row.ownBlock=some g∨g=u.heap.size) :
  eu B X V base T row acc x v [s,.slice (some ⟨g,0,none⟩) (acc.length+1) c] u':=by
 have hC:=nD hg
 have hgo:∀ i,(Value.slice (some ⟨g,0,none⟩) (acc.length+1) c).ownBlock=some i→row.ownBlock=some i∨u.heap.size≤i:=fun i e=>by
  have:g=i:=by simpa [Value.ownBlock] using e
  subst this;rcases ha with ha|ha
  ·exact .inl ha
  ·exact .inr (by omega)
 have hK:bZ (hide (fun i=>bM base row i || X i) u) (hide (fun i=>bM base (.slice (some ⟨g,0,none⟩) (acc.length+1) c) i || X i) u'):=aZ hC.size fun i hi hm=>by
  simp only [Bool.or_eq_false_iff,bM,decide_eq_false_iff_not] at hm ⊢;refine⟨⟨⟨hm.1.1,fun e=>?_⟩,hm.2⟩,hC.block i hi hm.1.2⟩
  rcases hgo i e with h|h
  ·exact hm.1.2 h
  ·omega
 refine⟨hM _ _ ⟨us ++ [v],by simp [hus],by simpa using ho,fun j hj hj'=>?_⟩ hC hgo,g,c,rfl⟩
 by_cases hl:j<acc.length
 ·have hl':j<us.length:=by omega
  rw [List.getElem_append_left hl,List.getElem_append_left hl'];obtain⟨h4,h5⟩:=hu3 j hl hl';exact⟨hV _ _ _ _ hK h4,h5⟩
 ·rw [List.length_append,List.length_singleton] at hj
  obtain rfl:j=acc.length:=by omega
  rw [List.getElem_append_right (Nat.le_refl _),List.getElem_append_right (by omega)];simp only [Nat.sub_self,hus,List.getElem_singleton];exact⟨hV _ _ _ _ hK h.2.1,hk⟩
theorem fG {α : Type} {B:World→Value→Value→List α→Prop} {X:Nat→Bool} {V:α→Value→World→Prop} {base:Nat} {T:TypeId} {row:Value} {acc:List α} {x:α} {v s r z:Value} {u u':World} (h:eu B X V base T row acc x v [s,r] u) (hS:B u row r (acc ++ [x])→B u' r r (acc ++ [x])) :
  eu B X V base T row acc x v [s,r,z] u':=hS h.1
end dn
structure DS (w u:World) (D Mn Ma B:Nat) (m:ByteArray) (n0 n1 n2 n3 ov oz xu rv rp ri:Value) (vs:List fB) (ps:List aI) (is:List ByteArray) (L A:List (ByteArray×Int)):Prop where
 ext:Ext w u
 d:aH u D #[.string m,ov,oz,n0,n1,n2,n3,xu,.map (some Ma)] 128
 nm:oV.kD u Mn L
 am:oV.kD u Ma A
 rows:dn.Three B u rv rp ri vs ps is
 hD:w.heap.size≤D
 hM:w.heap.size≤Mn
 hA:w.heap.size≤Ma
 FN:D<B
 Ly:Mn<B
 NY:Ma<B
 dM:D≠Mn
 dA:D≠Ma
 mA:Mn≠Ma
 hu:B≤u.heap.size
open dn bn
theorem DS.extend {w u u':World} {D Mn Ma B:Nat} {m:ByteArray} {n0 n1 n2 n3 ov oz xu rv rp ri:Value} {vs:List fB} {ps:List aI} {is:List ByteArray} {L A:List (ByteArray×Int)} (h:DS w u D Mn Ma B m n0 n1 n2 n3 ov oz xu rv rp ri vs ps is L A) (hE:Ext u u'):DS w u' D Mn Ma B m n0 n1 n2 n3 ov oz xu rv rp ri vs ps is L A:=
 ⟨h.ext.ext hE,h.d.ext hE,h.nm.aO hE id,h.am.aO hE id,h.rows.ext hE,h.hD,h.hM,h.hA,h.FN,h.Ly,h.NY,h.dM,h.dA,h.mA,Nat.le_trans h.hu hE.size⟩
theorem DS.turn {w u u':World} {D Mn Ma B:Nat} {m:ByteArray} {n0 n1 n2 n3 ov oz xu rv rp ri RS RU ri2:Value} {vs vs2:List fB} {ps ps2:List aI} {is X5:List ByteArray} {L A:List (ByteArray×Int)} (h:DS w u D Mn Ma B m n0 n1 n2 n3 ov oz xu rv rp ri vs ps is L A) {S:Nat→Prop} (hC:aB S u u') (hS:∀ i,S i→B≤i) (h2:Three B u' RS RU ri2 vs2 ps2 X5):DS w u' D Mn Ma B m n0 n1 n2 n3 ov oz xu RS RU ri2 vs2 ps2 X5 L A:=by
 have h3:=h.hD;have h4:=h.hM;have h5:=h.hA;have h6:=h.FN;have h7:=h.Ly;have h8:=h.NY
 exact⟨h.ext.trans hC (fun i hi e=>by have:=hS i e;omega),h.d.aO hC (fun e=>by have:=hS _ e;omega),h.nm.aO hC (fun e=>by have:=hS _ e;omega),h.am.aO hC (fun e=>by have:=hS _ e;omega),h2,h3,h4,h5,h6,h7,h8,h.dM,h.dA,h.mA,Nat.le_trans h.hu hC.size⟩
theorem DS.MH {w u:World} {D Mn Ma B:Nat} {m:ByteArray} {n0 n1 n2 n3 ov oz xu rv rp ri:Value} {vs:List fB} {ps:List aI} {is:List ByteArray} {L A:List (ByteArray×Int)} (h:DS w u D Mn Ma B m n0 n1 n2 n3 ov oz xu rv rp ri vs ps is L A):DS w (u.setCell ⟨D,1,none⟩ rv) D Mn Ma B m n0 n1 n2 n3 rv oz xu rv rp ri vs ps is L A:=by
 have h3:=h.hD;have h4:=h.dM;have h5:=h.dA;have h6:=h.FN
 have hC:=ak (S:=D) (aB.refl _ u) 1 rv;exact⟨h.ext.trans hC (fun i hi e=>by omega),by have:=h.d.set 1 rv;exact this,h.nm.aO hC (fun e=>h4 e.symm),h.am.aO hC (fun e=>h5 e.symm),h.rows.aO hC (fun i e=>by omega),h3,h.hM,h.hA,h6,h.Ly,h.NY,h4,h5,h.mA,Nat.le_trans h.hu hC.size⟩
theorem DS.Hy {w u:World} {D Mn Ma B:Nat} {m:ByteArray} {n0 n1 n2 n3 ov oz xu rv rp ri:Value} {vs:List fB} {ps:List aI} {is:List ByteArray} {L A:List (ByteArray×Int)} (h:DS w u D Mn Ma B m n0 n1 n2 n3 ov oz xu rv rp ri vs ps is L A):DS w (u.setCell ⟨D,2,none⟩ rp) D Mn Ma B m n0 n1 n2 n3 ov rp xu rv rp ri vs ps is L A:=by
 have h3:=h.hD;have h4:=h.dM;have h5:=h.dA;have h6:=h.FN
 have hC:=ak (S:=D) (aB.refl _ u) 2 rp;exact⟨h.ext.trans hC (fun i hi e=>by omega),by have:=h.d.set 2 rp;exact this,h.nm.aO hC (fun e=>h4 e.symm),h.am.aO hC (fun e=>h5 e.symm),h.rows.aO hC (fun i e=>by omega),h3,h.hM,h.hA,h6,h.Ly,h.NY,h4,h5,h.mA,Nat.le_trans h.hu hC.size⟩
theorem DS.ZF {w u:World} {D Mn Ma B:Nat} {m:ByteArray} {n0 n1 n2 n3 ov oz xu rv rp ri:Value} {vs:List fB} {ps:List aI} {is:List ByteArray} {L A:List (ByteArray×Int)} (h:DS w u D Mn Ma B m n0 n1 n2 n3 ov oz xu rv rp ri vs ps is L A):DS w (u.setCell ⟨D,7,none⟩ ri) D Mn Ma B m n0 n1 n2 n3 ov oz ri rv rp ri vs ps is L A:=by
 have h3:=h.hD;have h4:=h.dM;have h5:=h.dA;have h6:=h.FN
 have hC:=ak (S:=D) (aB.refl _ u) 7 ri;exact⟨h.ext.trans hC (fun i hi e=>by omega),by have:=h.d.set 7 ri;exact this,h.nm.aO hC (fun e=>h4 e.symm),h.am.aO hC (fun e=>h5 e.symm),h.rows.aO hC (fun i e=>by omega),h3,h.hM,h.hA,h6,h.Ly,h.NY,h4,h5,h.mA,Nat.le_trans h.hu hC.size⟩
theorem iF {w w':World} {b:Nat} (h:w.grownBy w' (some b)):aB (fun i=>i=b) w w':=
 ⟨h.os,h.tape,h.output,h.size,fun k hk hn=>h.block k hk (fun e=>hn (by cases e;rfl))⟩
theorem DS.name {w u u':World} {D Mn Ma B:Nat} {m:ByteArray} {n0 n1 n2 n3 ov oz xu rv rp ri:Value} {vs:List fB} {ps:List aI} {is:List ByteArray} {L L2 A:List (ByteArray×Int)} (h:DS w u D Mn Ma B m n0 n1 n2 n3 ov oz xu rv rp ri vs ps is L A) (hg:u.grownBy u' (some Mn)) (hm:oV.kD u' Mn L2):DS w u' D Mn Ma B m n0 n1 n2 n3 ov oz xu rv rp ri vs ps is L2 A:=by
 have hC:=iF hg;have h4:=h.hM;have h7:=h.Ly;have h8:=h.mA
 exact⟨h.ext.trans hC (fun i hi e=>by omega),h.d.aO hC h.dM,hm,h.am.aO hC (fun e=>h8 e.symm),h.rows.aO hC (fun i e=>by omega),h.hD,h4,h.hA,h.FN,h7,h.NY,h.dM,h.dA,h8,Nat.le_trans h.hu hC.size⟩
theorem DS.imp {w u u':World} {D Mn Ma B:Nat} {m:ByteArray} {n0 n1 n2 n3 ov oz xu rv rp ri:Value} {vs:List fB} {ps:List aI} {is:List ByteArray} {L A A2:List (ByteArray×Int)} (h:DS w u D Mn Ma B m n0 n1 n2 n3 ov oz xu rv rp ri vs ps is L A) (hg:u.grownBy u' (some Ma)) (hm:oV.kD u' Ma A2):DS w u' D Mn Ma B m n0 n1 n2 n3 ov oz xu rv rp ri vs ps is L A2:=by
 have hC:=iF hg;have h4:=h.hA;have h7:=h.NY;have h8:=h.mA
 exact⟨h.ext.trans hC (fun i hi e=>by omega),h.d.aO hC h.dA,h.nm.aO hC h8,hm,h.rows.aO hC (fun i e=>by omega),h.hD,h.hM,h4,h.FN,h.Ly,h7,h.dM,h.dA,h8,Nat.le_trans h.hu hC.size⟩
end Go.Proofs.YtpcihajmcejliacGreatDoor
