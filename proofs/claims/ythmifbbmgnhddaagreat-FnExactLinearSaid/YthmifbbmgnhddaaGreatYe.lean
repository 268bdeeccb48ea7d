/- A part. -/
import Derived.Test.YthmifbbmgnhddaaGreatYu
import Derived.Test.YthmifbbmgnhddaaGreatDk
import Derived.Test.YthmifbbmgnhddaaGreatYc
set_option linter.unusedSimpArgs false
set_option linter.unusedVariables false
set_option maxHeartbeats 2000000
set_option maxRecDepth 10000
open Go.Proofs.Tryz
namespace Go.Proofs.YthmifbbmgnhddaaGreat
open Go.Vm
noncomputable def EU (kind:Int) (l:List DVal):List Int:=if kind=0 then En l else if kind=1 then Fh l else if kind=2 then EX l else if kind=3 then Di l else []
noncomputable def bk1 (l:List DVal):Int:=if(EU 1 l).length<(EU 0 l).length then 1 else 0
noncomputable def bk2 (l:List DVal):Int:=if(EU 2 l).length<(EU (bk1 l) l).length then 2 else bk1 l
noncomputable def bk3 (l:List DVal):Int:=if typeOf l=1∧(EU 3 l).length<(EU (bk2 l) l).length then 3 else bk2 l
noncomputable def BF (l:List DVal):Int:=if typeOf l=0 then -1 else bk3 l
noncomputable def A_ (l:List DVal):List Int:=if BF l<0 then [] else BF l::EU (BF l) l
noncomputable def Yh (b:List Int) (ty k:Int):Option (List DVal):=match b with
 | []=>none
 | c::r=>if c=0 then Gx r ty k else if c=1 then EW r ty k else if c=2 then GV r ty k else if c=3 then Ep r k else none
noncomputable def zf (b:List Int) (ty k:Int):Option (List DVal):=match b with
 | []=>none
 | c::r=>if c=0 then QQ r ty k else if c=1 then EW r ty k else if c=2 then Kz r ty k else if c=3 then JR r k else none
noncomputable def JY (b:List Int) (ty k:Int):Option (List DVal):=if 1≤ty∧ty≤2 then match Yh b ty k with
  | none=>none
  | some l=>if typeOf l=ty∧A_ l=b then some l else none
 else none
noncomputable def eH (b:List Int) (ty k:Int):Option (List DVal):=if b = [] then none else
 if typeOf ((zf b ty k).getD [])=ty then again b k ((zf b ty k).getD []) (A_ ((zf b ty k).getD [])) else none
theorem ADE {b:List Int} (hb:Af b) (ty k:Int):zf b ty k=Yh b ty k:=by
 cases b with
 | nil=>rfl
 | cons c r =>
  have hr:Af r:=fun x hx=>hb x ARS
  simp only[zf,Yh,Zv hr,kz hr,Zw]
theorem ABu {b:List Int} (hb:Af b) {ty k:Int} {l:List DVal} (h:EW b ty k=some l):(1≤k∧k≤64∧(l.length:Int)=k)∧typeOf l≠0:=by
 unfold EW at h
 cases hn:BU b 0 with
 | none=>simp[hn] at h
 | some x =>
  obtain⟨n,p⟩:=x
  obtain⟨_,_,hne⟩:=X3 hb hn
  simp only[hn] at h
  split at h
  ·split at h
   ·cases h
   ·obtain⟨h1,h2,h3,h4,h5⟩:=AEx h
    rw[h1]
    refine⟨⟨h2,h3,h4⟩,fun h0=>hne ?_⟩
    rw[h5,Fh,bG h0]
  ·cases h
theorem ABv {b:List Int} (hb:Af b) {ty k:Int} {l:List DVal} (h:GV b ty k=some l):(1≤k∧k≤64∧(l.length:Int)=k)∧typeOf l≠0:=by
 unfold GV at h
 cases hn:BU b 0 with
 | none=>simp[hn] at h
 | some x =>
  obtain⟨n,p⟩:=x
  obtain⟨_,_,hne⟩:=X3 hb hn
  simp only[hn] at h
  split at h
  ·rename_i hk
   split at h
   ·cases h
   ·split at h
    ·cases h
    ·rename_i o hu
     split at h
     ·cases h
     ·rename_i l' hp
      split at h
      ·rename_i he
       simp only[ai] at h
       subst h
       have h1:=O1 hu
       have h2:=O3 hp
       refine⟨⟨hk.1.1,hk.1.2,AQ2⟩,fun h0=>hne ?_⟩
       rw[← he,EX,bG h0]
      ·cases h
  ·cases h
theorem zg {b:List Int} (hb:Af b) {k:Int} {l:List DVal} (h:Ep b k=some l):(1≤k∧k≤64∧(l.length:Int)=k)∧typeOf l≠0:=by
 unfold Ep at h
 cases hn:BU b 0 with
 | none=>simp[hn] at h
 | some x =>
  obtain⟨n,p⟩:=x
  obtain⟨_,_,hne⟩:=X3 hb hn
  simp only[hn] at h
  split at h
  ·cases h
  ·split at h
   ·rename_i hk
    split at h
    ·cases h
    ·rename_i o hu
     split at h
     ·cases h
     ·rename_i l' hp
      split at h
      ·rename_i he
       simp only[ai] at h
       subst h
       have h1:=O1 hu
       have h2:=RY hp
       refine⟨⟨hk.1,hk.2,AQ2⟩,fun h0=>hne ?_⟩
       rw[← he,Di,bG AQ2]
      ·cases h
   ·cases h
theorem zh {b:List Int} (hb:Af b) {ty k:Int} {l:List DVal} (h:Gx b ty k=some l):typeOf l≠0:=by
 unfold Gx at h
 split at h
 ·rename_i hk
  cases hv:Bq b ty k.toNat 0 with
  | none=>simp[hv] at h
  | some x =>
   obtain⟨l',q⟩:=x
   simp only[hv] at h
   split at h
   ·simp only[ai] at h
    subst h
    obtain⟨_,_,c3,c4,_⟩:=J6 hb k.toNat 0 _ q (au _) hv
    have h0:0<l'.length:=AQ2
    have hty:=(c4 _ (aj h0)).2.2
    rw[Ui (ty:=ty) AQ2 AQ2 fun v hv=>⟨(c4 v hv).1,(c4 v hv).2.1⟩]
    omega
   ·cases h
 ·cases h
theorem L9 {b:List Int} (hb:Af b) {ty k:Int} {l:List DVal} (h:Yh b ty k=some l):(1≤k∧k≤64∧(l.length:Int)=k)∧typeOf l≠0:=by
 cases b with
 | nil=>cases h
 | cons c r =>
  have hr:Af r:=fun x hx=>hb x ARS
  simp only[Yh] at h
  split at h
  ·exact⟨AAH hr h,zh hr h⟩
  ·split at h
   ·exact ABu hr h
   ·split at h
    ·exact ABv hr h
    ·split at h
     ·exact zg hr h
     ·cases h
theorem AEp {b:List Int} (hb:Af b) (ty k:Int):eH b ty k=JY b ty k:=by
 unfold eH JY
 rw[ADE hb]
 by_cases h0:b = []
 ·rw[bG h0,h0]
  simp[Yh]
 ·rw[bu h0]
  cases hd:Yh b ty k with
  | none =>
   simp only[aaF]
   have ht:typeOf []=0:=rfl
   rw[ht]
   unfold again
   by_cases h1:(0:Int)=ty
   ·rw[bG h1,bu (by simp only[bV]; omega)]
    split<;>rfl
   ·rw[bu h1]
    split<;>rfl
  | some l =>
   obtain⟨⟨k1,k2,k3⟩,k4⟩:=L9 hb hd
   simp only[ak]
   by_cases h1:typeOf l=ty
   ·rw[bG h1,bG (by have:=AG7 l; omega)]
    unfold again
    by_cases h2:A_ l=b
    ·rw[bG ⟨k1,k2,k3,h2.symm⟩,bG ⟨h1,h2⟩]
    ·rw[bu fun h3=>h2 h3.2.2.2.symm,bu fun h3=>h2 h3.2]
   ·rw[bu h1]
    split
    ·rw[bu fun h3=>h1 h3.1]
    ·rfl
theorem Yi {b:List Int} (hb:Af b) {ty k:Int} {l:List DVal} (h:JY b ty k=some l):(l.length:Int)=k∧typeOf l=ty∧A_ l=b:=by
 unfold JY at h
 split at h
 ·cases hd:Yh b ty k with
  | none=>simp[hd] at h
  | some l' =>
   simp only[hd] at h
   split at h
   ·rename_i he
    simp only[ai] at h
    subst h
    exact⟨(L9 hb hd).1.2.2,he⟩
   ·cases h
 ·cases h
def Ip (b:List Int):Nat→Nat→Option (List Int×Nat)
 | 0,p=>some ([],p)
 | k+1,p=>match BU b p with
  | none=>none
  | some (n,q)=>(Ip b k q).map fun x=>(n::x.1,x.2)
def Fg (b:List Int) (p:Int):Option (List Int×Nat):=match BU b p with
 | none=>none
 | some (k,q)=>if 0≤k∧k≤64 then Ip b k.toNat q else none
def Ro (l:List Int):List Int:=FX l.length++(l.map FX).flatten
theorem kD {b:List Int} (hb:Af b):∀ (k p:Nat) (l:List Int) (q:Nat),p≤b.length→Ip b k p=some (l,q) →
  p≤q∧q≤b.length∧l.length=k∧(b.drop p).take (q-p)=(l.map FX).flatten
 | 0,p,l,q,hp,h=>by
  simp only[Ip,ai,bU] at h
  obtain⟨rfl,rfl⟩:=h
  exact⟨aI _,hp,rfl,AQ3⟩
 | k+1,p,l,q,hp,h=>by
  rw[Ip] at h
  cases hv:BU b p with
  | none=>simp[hv] at h
  | some x =>
   obtain⟨v,m⟩:=x
   simp only[hv] at h
   cases hr:Ip b k m with
   | none=>simp[hr] at h
   | some y =>
    obtain⟨l',q'⟩:=y
    simp only[hr,dm,ai,bU] at h
    obtain⟨rfl,rfl⟩:=h
    obtain⟨_,a2,a3,_,_,a6⟩:=Ig hb hv
    obtain⟨c1,c2,c3,c5⟩:=kD hb k m l' q' a3 hr
    refine⟨AQ2,c2,by simp[c3], ?_⟩
    rw[Ug b (p:=p) (q:=m) (r:=q') AQ2 c1,c5]
    have:(b.drop p).take (m-p)=FX v:=by simpa using a6
    rw[this]; rfl
theorem Vs {b:List Int} (hb:Af b) {l:List Int} {q:Nat} (h:Fg b 0=some (l,q)):q≤b.length∧l.length≤64∧b.take q=Ro l:=by
 unfold Fg at h
 cases hn:BU b 0 with
 | none=>simp[hn] at h
 | some x =>
  obtain⟨k,p⟩:=x
  simp only[hn] at h
  split at h
  ·rename_i hk
   obtain⟨_,a2,a3,_,_,a6⟩:=Ig hb hn
   obtain⟨c1,c2,c3,c5⟩:=kD hb k.toNat p l q a3 h
   refine⟨c2,AQ2, ?_⟩
   have e1:=Ug b (p:=0) (q:=p) (r:=q) (au _) c1
   simp only[aaR,vH] at e1
   have e2:b.take p=FX k:=by simpa using a6
   rw[e1,c5,e2,Ro,c3]
   congr 2
   omega
  ·cases h
noncomputable def l9 (l:List DVal):List Int:=FX (A_ l).length++A_ l
noncomputable def He (b:List Int) (n:Nat):List Int→Nat→Option (List (List DVal)×Nat)
 | [],p=>some ([],p)
 | ty::r,p=>match BU b p with
  | none=>none
  | some (m,q)=>if 0≤m∧m≤(b.length:Int)-q then match JY ((b.drop q).take m.toNat) ty n with
    | none=>none
    | some l=>(He b n r (q+m.toNat)).map fun x=>(l::x.1,x.2)
   else none
theorem kE {b:List Int} (hb:Af b) (n:Nat):∀ (cols:List Int) (p:Nat) (cs:List (List DVal)) (q:Nat),p≤b.length→He b n cols p=some (cs,q) →
  p≤q∧q≤b.length∧cs.length=cols.length∧(∀ c∈cs,c.length=n)∧(b.drop p).take (q-p)=(cs.map l9).flatten
 | [],p,cs,q,hp,h=>by
  simp only[He,ai,bU] at h
  obtain⟨rfl,rfl⟩:=h
  exact⟨aI _,hp,rfl,AQ3,AQ3⟩
 | ty::r,p,cs,q,hp,h=>by
  rw[He] at h
  cases hv:BU b p with
  | none=>simp[hv] at h
  | some x =>
   obtain⟨m,q1⟩:=x
   simp only[hv] at h
   split at h
   ·rename_i hm
    cases hd:JY ((b.drop q1).take m.toNat) ty n with
    | none=>simp[hd] at h
    | some l =>
     simp only[hd] at h
     cases hr:He b n r (q1+m.toNat) with
     | none=>simp[hr] at h
     | some y =>
      obtain⟨cs',q'⟩:=y
      simp only[hr,dm,ai,bU] at h
      obtain⟨rfl,rfl⟩:=h
      obtain⟨_,a2,a3,_,_,a6⟩:=Ig hb hv
      obtain⟨d1,_,d3⟩:=Yi (Uh hb _ _) hd
      obtain⟨c1,c2,c3,c4,c5⟩:=kE hb n r (q1+m.toNat) cs' q' AQ2 hr
      refine⟨AQ2,c2,by simp[c3],fun c hc=>?_, ?_⟩
      ·rcases Rx.1 hc with rfl | hc
       ·omega
       ·exact c4 c hc
      ·rw[Ug b (p:=p) (q:=q1) (r:=q') AQ2 AQ2,Ug b (p:=q1) (q:=q1+m.toNat) (r:=q') AQ2 c1,c5]
       have e1:(b.drop p).take (q1-p)=FX m:=by simpa using a6
       have e2:q1+m.toNat-q1=m.toNat:=AQ2
       have e3:(A_ l).length=m.toNat:=by rw[d3]; simp; omega
       rw[e1,e2,← d3]
       simp only[TA,lL,l9,e3,aZ]
       congr 2
       omega
   ·cases h
def rowsOf (ids:List Int) (cs:List (List DVal)):List DRow:=(List.range ids.length).map fun i=>⟨(ids[i]?).getD 0,cs.map fun c=>(c[i]?).getD zeroW⟩
where zeroW:DVal:=⟨0,0,ByteArray.empty⟩
theorem ABw (ids:List Int) (cs:List (List DVal)):(rowsOf ids cs).map DRow.id=ids:=by
 unfold rowsOf
 rw[List.map_map]
 exact APB
theorem Du (ids:List Int) (cs:List (List DVal)):(rowsOf ids cs).length=ids.length:=by simp[rowsOf]
theorem filterMap_map {α β:Type} {f:α→Option β} {g:α→β}:∀ (l:List α),(∀ x∈l,f x=some (g x))→l.filterMap f=l.map g
 | [],_=>rfl
 | x::l,h=>by
  rw[List.filterMap_cons,h x AQ3,TA,filterMap_map l fun y hy=>h y ASE]
theorem AEq (l:List DVal) (z:DVal):(List.range l.length).map (fun i=>(l[i]?).getD z)=l:=by
 exact APB
theorem ABx {ids:List Int} {cs:List (List DVal)} (h:∀ c∈cs,c.length=ids.length) {k:Nat} (hk:k<cs.length):Dp (rowsOf ids cs) k=cs[k]:=by
 have hl:=h _ (aj hk)
 unfold Dp rowsOf
 rw[List.filterMap_map,filterMap_map (g:=fun i=>((cs[k])[i]?).getD rowsOf.zeroW),← hl]
 ·exact AEq _ _
 ·intro i hi
  have hi':i<(cs[k]).length:=by rw[hl]; simpa using hi
  simp[hk,hi']
noncomputable def Dq (cols:List Int) (l:List DRow):Bool:=(E8 cols&&decide (l.length≤12))&&(SY cols l&&decide (∀ r∈l,r.id≤1000000000))
noncomputable def Df (cols:List Int) (l:List DRow):List Int:=
 if Dq cols l=true then Ro (l.map DRow.id)++(if l = [] then [] else((List.range cols.length).map fun(k:Nat)=>l9 (Dp l (k:Int))).flatten) else []
noncomputable def Gi (b:List Int) (cols ids:List Int) (p:Nat):Option (List (List DVal)×Nat):=if ids = [] then some ([],p) else He b ids.length cols p
noncomputable def CQ (cols b:List Int):Option (List DRow):=match Fg b 0 with
 | none=>none
 | some (ids,p)=>if E8 cols=true∧ids.length≤12 then match Gi b cols ids p with
   | none=>none
   | some (cs,q)=>if q=b.length∧Dq cols (rowsOf ids cs)=true then some (rowsOf ids cs) else none
  else none
noncomputable def KF (cols b:List Int):Option (List DRow):=match Fg b 0 with
 | none=>none
 | some (ids,p)=>if E8 cols=true then match Gi b cols ids p with
   | none=>none
   | some (cs,_)=>if Dq cols (rowsOf ids cs)=true∧Df cols (rowsOf ids cs)=b then some (rowsOf ids cs) else none
  else none
theorem ABy {b:List Int} {q:Nat} (h:q≤b.length):b.take q=b↔q=b.length:=by
 constructor
 ·intro e
  have:=congrArg List.length e
  simp only[bJ] at this
  omega
 ·rintro rfl
  exact bP
theorem zi {b:List Int} (hb:Af b) (cols:List Int):KF cols b=CQ cols b:=by
 unfold KF CQ
 cases hn:Fg b 0 with
 | none=>rfl
 | some x =>
  obtain⟨ids,p⟩:=x
  obtain⟨n1,n2,n3⟩:=Vs hb hn
  dsimp only
  by_cases hc:E8 cols=true
  ·rw[bG hc]
   cases hg:Gi b cols ids p with
   | none=>dsimp only; split<;>rfl
   | some y =>
    obtain⟨cs,q⟩:=y
    dsimp only
    by_cases h12:ids.length≤12
    ·have key:Dq cols (rowsOf ids cs)=true→(Df cols (rowsOf ids cs)=b↔q=b.length):=by
      intro hok
      have hput:Df cols (rowsOf ids cs)=b.take q∧q≤b.length:=by
       unfold Df
       rw[bG hok,ABw,← n3]
       unfold Gi at hg
       by_cases hi:ids = []
       ·rw[bG hi] at hg
        simp only[ai,bU] at hg
        obtain⟨rfl,rfl⟩:=hg
        rw[bG (by apply bY; rw[Du,hi]; rfl)]
        exact⟨AQ3,n1⟩
       ·rw[bu hi] at hg
        obtain⟨c1,c2,c3,c4,c5⟩:=kE hb ids.length cols p cs q n1 hg
        rw[bu (by intro h0; have:=Du ids cs; rw[h0] at this; exact hi (bY this.symm))]
        have e1:=Ug b (p:=0) (q:=p) (r:=q) (au _) c1
        simp only[aaR,vH] at e1
        refine⟨?_,c2⟩
        rw[e1,c5]
        congr 2
        apply List.ext_getElem
        ·simp[c3]
        ·intro k h1 h2
         have hk:k<cs.length:=ARw
         simp only[List.getElem_map,List.getElem_range]
         rw[ABx c4 hk]
      rw[hput.1]
      exact ABy hput.2
     by_cases hok:Dq cols (rowsOf ids cs)=true
     ·simp only[hok,key hok,hc,h12,abV,abP,vI,bH]
     ·simp only[hok,hc,h12,false_and,and_false,vI,bH,aY,ay]
    ·have hok:¬ Dq cols (rowsOf ids cs)=true:=by
      intro h
      simp only[Dq,az,bC,Du] at h
      exact h12 h.1.2
     simp only[hok,h12,false_and,and_false,aY,ay]
  ·rw[bu hc,bu fun h=>hc h.1]
theorem Gv (out:List Int) (c:Int):(out ++ [c]).map intC=out.map intC ++ [[.v (.int .i64 c)]]:=by simp[ACK]
theorem AKk:D7 []=true:=rfl
theorem OC (n:Int):CS (intC n)=true:=rfl
def dC:Option (List Int×Nat)→List Res
 | some (l,q)=>[.own 3 1 (l.map intC) true,.val (.c (.v (.int .i64 ((q:Int))))),.val (.c (.v (.bool (true))))]
 | none=>[.own 3 1 [] true,.val (.c (.v (.int .i64 (0)))),.val (.c (.v (.bool (false))))]
theorem l_ (b:List Int) (p:Int) (hb:Af b) (hl:b.length≤1048576):Ctr prog 355 [.c (.sl (b.map byteC)),.c (.v (.int .i64 (p)))] (dC (Fg b p)):=by
 refine CM call355 func355 ntmps355 results355 fun hw=>?_
 simp only[go_sem,ae]
 have hg:=Gt b p hb hl
 rcases h1:BU b p with _ | ⟨k,q⟩<;>rw[h1] at hg<;>simp only[Xn] at hg
 ·refine AAN _ hg fun _=>?_
  simp only[go_sem,Fg,h1,dC]
  try simp[D7]
 refine AAN _ hg fun _=>?_
 simp only[go_sem]
 refine AAN _ (AL _ _ _) fun _=>?_
 rcases h2:Ad k 0 64 with _ | _
 ·exact APw
 have hk:0≤k∧k≤64:=ARH
 obtain⟨K,rfl⟩:=aU hk.1
 have hall:Fg b p=Ip b K q:=by simp only[Fg,h1,bG hk,YM]
 simp only[go_sem,h2]
 refine AAU [28] (A:=Nat×Nat×List Int) (fun x=>[(10,.c (.v (.int .i64 (x.1)))),(9,.c (.ref 0)),(1,.c (.v (.int .i64 ((x.2.1:Int)))))]) (fun x=>[⟨3,1,x.2.2.map intC,true,true⟩]) (fun x=>x.1≤K∧x.2.2.length=x.1∧(Ip b (K-x.1) x.2.1).map (fun y=>(x.2.2++y.1,y.2))=Fg b p) (fun x=>K-x.1) (0,q,[]) (AAQ [(0,false)] ⟨rfl,rfl,rfl,trivial⟩ rfl) ⟨au _,rfl,by rw[hall]; simp⟩ ?_
 rintro⟨i,q',l⟩ ⟨hi,hll,hb2⟩
 dsimp only at hi hll hb2
 refine AQy (fun h=>?_) fun h=>?_
 ·have hi':i<K:=by simp at h; omega
  rw[show K-i=(K-(i+1))+1 from AQ2,Ip] at hb2
  have hg2:=Gt b q' hb hl
  exact AJl
 ·have hi':i=K:=by simp at h; omega
  subst hi'
  rw[ZO,Ip] at hb2
  simp only[dm,bK] at hb2
  rw[← hb2]
  simp only[go_sem,dC,AX]
  try exact AHA
theorem mD (b:List Int) (p:Int) (hb:Af b) (hl:b.length≤1048576):Ctr prog 347 [.c (.sl (b.map byteC)),.c (.v (.int .i64 (p)))] (dC (Fg b p)):=by
 refine CM call347 func347 ntmps347 results347 fun hw=>?_
 simp only[go_sem,ae]
 have hg:=Gs b p hb hl
 rcases h1:BU b p with _ | ⟨k,q⟩<;>rw[h1] at hg<;>simp only[Xn] at hg
 ·refine AAN _ hg fun _=>?_
  simp only[go_sem,Fg,h1,dC]
  try simp[D7]
 refine AAN _ hg fun _=>?_
 simp only[go_sem]
 refine AAN _ (AQ _ _ _) fun _=>?_
 rcases h2:Ad k 0 64 with _ | _
 ·exact APw
 have hk:0≤k∧k≤64:=ARH
 obtain⟨K,rfl⟩:=aU hk.1
 have hall:Fg b p=Ip b K q:=by simp only[Fg,h1,bG hk,YM]
 simp only[go_sem,h2]
 refine AAU [30] (A:=Nat×Nat×List Int) (fun x=>[(11,.c (.v (.int .i64 (x.1)))),(10,.c (.ref 0)),(8,.c (.v (.int .i64 ((x.2.1:Int)))))]) (fun x=>[⟨3,1,x.2.2.map intC,true,true⟩]) (fun x=>x.1≤K∧x.2.2.length=x.1∧(Ip b (K-x.1) x.2.1).map (fun y=>(x.2.2++y.1,y.2))=Fg b p) (fun x=>K-x.1) (0,q,[]) (AAQ [(0,false)] ⟨rfl,rfl,rfl,trivial⟩ rfl) ⟨au _,rfl,by rw[hall]; simp⟩ ?_
 rintro⟨i,q',l⟩ ⟨hi,hll,hb2⟩
 dsimp only at hi hll hb2
 refine AQy (fun h=>?_) fun h=>?_
 ·have hi':i<K:=by simp at h; omega
  rw[show K-i=(K-(i+1))+1 from AQ2,Ip] at hb2
  have hg2:=Gs b q' hb hl
  exact AJl
 ·have hi':i=K:=by simp at h; omega
  subst hi'
  rw[ZO,Ip] at hb2
  simp only[dm,bK] at hb2
  rw[← hb2]
  simp only[go_sem,dC,AX]
  try exact AHA
theorem all1 {p:Ob→Bool} {x:Ob} (h:p x=true) : [x].all p=true:=by simp[h]
def eP:Option (List Int)→List Res
 | some l=>[.own 3 1 (l.map intC) true,.val (.c (.v (.bool (true))))]
 | none=>[.own 3 1 [] true,.val (.c (.v (.bool (false))))]
def vJ (b:List Int) (W i:Nat):List Int:=(List.range i).map fun m:Nat=>O0 b ((m:Int)*W) W
theorem ADF (b:List Int) (W i:Nat):(vJ b W i).length=i:=by simp[vJ]
theorem kF (b:List Int) (n:Int):0≤Fb b n∧Fb b n≤1:=by
 unfold Fb
 grind
theorem kG (b:List Int) (o:Int):∀ j:Nat,0≤O0 b o j∧O0 b o j<2 ^ j
 | 0=>by simp[O0]
 | j+1=>by
  have h1:=kG b o j
  have h2:=kF b (o+j)
  have hp:(0:Int)<2 ^ j:=Int.pow_pos AQ2
  have h3:0≤Fb b (o+j)*2 ^ j:=abe h2.1 AQ2
  have h4:Fb b (o+j)*2 ^ j≤1*2 ^ j:=aak h2.2 AQ2
  rw[O0,abp]; omega
theorem Xo (b:List Int) (w k:Int) (hb:Af b) (hl:b.length≤1048576):Ctr prog 417 [.c (.sl (b.map byteC)),.c (.v (.int .i64 (w))),.c (.v (.int .i64 (k)))] (eP (unpack b w k)):=by
 refine CM call417 func417 ntmps417 results417 fun hw=>?_
 simp only[go_sem,ae]
 refine AAN _ (AL _ _ _) fun _=>?_
 rcases h1:Ad w 0 31 with _ | _
 ·exact AO1
 simp only[go_sem,h1]
 refine AAN _ (AL _ _ _) fun _=>?_
 rcases h2:Ad k 0 64 with _ | _
 ·exact AOw
 simp only[go_sem,h1,h2,ae]
 refine AAN _ (jw _ _) fun _=>?_
 rcases h3:(b.length:Int) != GL k w with _ | _
 rotate_left
 ·exact AO2
 have hlen:(b.length:Int)=GL k w:=ARQ
 have hw0:0≤w∧w≤31:=ASL
 have hk0:0≤k∧k≤64:=ASL
 simp only[go_sem,h1,h2,h3,ae]
 obtain⟨W,rfl⟩:=aU hw0.1
 obtain⟨K,rfl⟩:=aU hk0.1
 have hKW:K*W≤64*31:=abw AQ2 AQ2
 have hlen8:b.length=(K*W+7)/8:=by
  exact AP9
 have hsucc:∀ i:Nat,(vJ b W (i+1)).map intC=(vJ b W i).map intC ++ [[.v (.int .i64 (O0 b ((i:Int)*W) W))]]:=fun i=>by
  rw[vJ,List.range_succ,bQ,bQ]; rfl
 refine AAU [29] (A:=Nat) (fun i=>[(9,.c (.v (.int .i64 (i)))),(8,.c (.ref 0))]) (fun i=>[⟨3,1,(vJ b W i).map intC,true,true⟩]) (fun i=>i≤K) (fun i=>K-i) 0 (AAQ [(0,false)] ⟨rfl,rfl,rfl,trivial⟩ rfl) (au _) ?_
 intro i hi
 refine AQy (fun h=>?_) fun h=>?_
 ·have hi':i<K:=by simp at h; omega
  have hiW:i*W≤64*31:=abw AQ2 AQ2
  have eiW:(i:Int)*W=((i*W:Nat):Int):=AQ3
  have e1:IntKind.i64.wrap ((i:Int)*W)=((i:Int)*W):=wrap_i64 AQ2 AQ2
  simp only[go_sem]
  refine AAT 1 (A:=Nat) (fun j=>[(11,.c (.v (.int .i64 (j)))),(10,.c (.v (.int .i64 (O0 b ((i:Int)*W) j))))]) (fun _=>[⟨3,1,(vJ b W i).map intC,true,true⟩]) (fun j=>j≤W) (fun j=>W-j) 0 ⟨⟨rfl,all1 (AU (AX _))⟩,rfl,au _⟩ ?_
  intro j hj
  simp only[go_sem,ae]
  refine AAP (fun h2=>?_) (fun h2=>?_)
  ·have hj':j<W:=by simp at h2; omega
   have e2:IntKind.i64.wrap ((i:Int)*W+j)=(i:Int)*W+j:=wrap_i64 AQ2 AQ2
   have h01:=kF b ((i:Int)*W+j)
   have hbd:=kG b ((i:Int)*W) j
   have hp:(0:Int)<2 ^ j:=Int.pow_pos AQ2
   have hp2:(2:Int) ^ j≤2 ^ 31:=AR5
   have h3:0≤Fb b ((i:Int)*W+j)*2 ^ j:=abe h01.1 AQ2
   have h4:Fb b ((i:Int)*W+j)*2 ^ j≤1*2 ^ j:=aak h01.2 AQ2
   have e3:IntKind.i64.wrap (Fb b ((i:Int)*W+j)*2 ^ min j 64)=Fb b ((i:Int)*W+j)*2 ^ j:=by
    rw[dO AQ2,wrap_i64 AQ2 AQ2]
   have e4:IntKind.i64.wrap (orK .i64 (O0 b ((i:Int)*W) j) (Fb b ((i:Int)*W+j)*2 ^ j))=O0 b ((i:Int)*W) (j+1):=by
    exact APn
   simp only[go_sem,e1,e2]
   refine AAN _ (Zk b _ hb hl AQ2) fun _=>?_
   exact APH
  ·exact AM0
 ·have hi':i=K:=by simp at h; omega
  subst hi'
  have ekw:(i:Int)*W=((i*W:Nat):Int):=AQ3
  have e1:IntKind.i64.wrap ((i:Int)*W)=((i*W:Nat):Int):=by rw[wrap_i64 AQ2 AQ2,ekw]
  have e8:IntKind.i64.wrap (8*(b.length:Int))=((8*b.length:Nat):Int):=AQ7
  simp only[go_sem,e1]
  refine AAT 1 (A:=Nat) (fun n=>[(12,.c (.v (.int .i64 ((n:Int)))))]) (fun _=>[⟨3,1,(vJ b W i).map intC,true,true⟩]) (fun n=>i*W≤n∧n≤8*b.length∧∀ m,i*W≤m→m<n→Fb b (m:Int)=0) (fun n=>8*b.length-n) (i*W) ⟨⟨rfl,all1 (AU (AX _))⟩,rfl,aI _,AQ2,fun m h1 h2=>AQ2⟩ ?_
  rintro n ⟨hn1,hn2,hz⟩
  simp only[go_sem,ae,e8]
  refine AAP (fun h2=>?_) (fun h2=>?_)
  ·have hn':n<8*b.length:=by simp at h2; omega
   simp only[go_sem]
   refine AAN _ (Zk b _ hb hl AQ2) fun _=>?_
   exact AKE
  ·exact AN2
theorem Xp (b:List Int) (w k:Int) (hb:Af b) (hl:b.length≤1048576):Ctr prog 404 [.c (.sl (b.map byteC)),.c (.v (.int .i64 (w))),.c (.v (.int .i64 (k)))] (eP (unpack b w k)):=by
 refine CM call404 func404 ntmps404 results404 fun hw=>?_
 simp only[go_sem,ae]
 refine AAN _ (AQ _ _ _) fun _=>?_
 rcases h1:Ad k 0 64 with _ | _
 ·exact AO1
 simp only[go_sem,h1]
 refine AAN _ (AQ _ _ _) fun _=>?_
 rcases h2:Ad w 0 31 with _ | _
 ·exact AOw
 simp only[go_sem,h1,h2,ae]
 refine AAN _ (jy _ _) fun _=>?_
 rcases h3:(b.length:Int) != GL k w with _ | _
 rotate_left
 ·exact AO2
 have hlen:(b.length:Int)=GL k w:=ARQ
 have hw0:0≤w∧w≤31:=ASL
 have hk0:0≤k∧k≤64:=ASL
 simp only[go_sem,h1,h2,h3,ae]
 obtain⟨W,rfl⟩:=aU hw0.1
 obtain⟨K,rfl⟩:=aU hk0.1
 have hKW:K*W≤64*31:=abw AQ2 AQ2
 have hlen8:b.length=(K*W+7)/8:=by
  exact AP9
 have hsucc:∀ i:Nat,(vJ b W (i+1)).map intC=(vJ b W i).map intC ++ [[.v (.int .i64 (O0 b ((i:Int)*W) W))]]:=fun i=>by
  rw[vJ,List.range_succ,bQ,bQ]; rfl
 refine AAU [13] (A:=Nat) (fun i=>[(9,.c (.v (.int .i64 (i)))),(8,.c (.ref 0))]) (fun i=>[⟨3,1,(vJ b W i).map intC,true,true⟩]) (fun i=>i≤K) (fun i=>K-i) 0 (AAQ [(0,false)] ⟨rfl,rfl,rfl,trivial⟩ rfl) (au _) ?_
 intro i hi
 refine AQy (fun h=>?_) fun h=>?_
 ·have hi':i<K:=by simp at h; omega
  have hiW:i*W≤64*31:=abw AQ2 AQ2
  have eiW:(i:Int)*W=((i*W:Nat):Int):=AQ3
  have e1:IntKind.i64.wrap ((i:Int)*W)=((i:Int)*W):=wrap_i64 AQ2 AQ2
  simp only[go_sem]
  refine AAT 1 (A:=Nat) (fun j=>[(11,.c (.v (.int .i64 (j)))),(10,.c (.v (.int .i64 (O0 b ((i:Int)*W) j))))]) (fun _=>[⟨3,1,(vJ b W i).map intC,true,true⟩]) (fun j=>j≤W) (fun j=>W-j) 0 ⟨⟨rfl,all1 (AU (AX _))⟩,rfl,au _⟩ ?_
  intro j hj
  simp only[go_sem,ae]
  refine AAP (fun h2=>?_) (fun h2=>?_)
  ·have hj':j<W:=by simp at h2; omega
   have e2:IntKind.i64.wrap ((i:Int)*W+j)=(i:Int)*W+j:=wrap_i64 AQ2 AQ2
   have h01:=kF b ((i:Int)*W+j)
   have hbd:=kG b ((i:Int)*W) j
   have hp:(0:Int)<2 ^ j:=Int.pow_pos AQ2
   have hp2:(2:Int) ^ j≤2 ^ 31:=AR5
   have h3:0≤Fb b ((i:Int)*W+j)*2 ^ j:=abe h01.1 AQ2
   have h4:Fb b ((i:Int)*W+j)*2 ^ j≤1*2 ^ j:=aak h01.2 AQ2
   have e3:IntKind.i64.wrap (Fb b ((i:Int)*W+j)*2 ^ min j 64)=Fb b ((i:Int)*W+j)*2 ^ j:=by
    rw[dO AQ2,wrap_i64 AQ2 AQ2]
   have e4:IntKind.i64.wrap (orK .i64 (O0 b ((i:Int)*W) j) (Fb b ((i:Int)*W+j)*2 ^ j))=O0 b ((i:Int)*W) (j+1):=by
    exact APn
   simp only[go_sem,e1,e2]
   refine AAN _ (Zl b _ hb hl AQ2) fun _=>?_
   exact APH
  ·exact AM0
 ·have hi':i=K:=by simp at h; omega
  subst hi'
  have ekw:(i:Int)*W=((i*W:Nat):Int):=AQ3
  have e1:IntKind.i64.wrap ((i:Int)*W)=((i*W:Nat):Int):=by rw[wrap_i64 AQ2 AQ2,ekw]
  have e8:IntKind.i64.wrap (8*(b.length:Int))=((8*b.length:Nat):Int):=AQ7
  simp only[go_sem,e1]
  refine AAT 1 (A:=Nat) (fun n=>[(12,.c (.v (.int .i64 ((n:Int)))))]) (fun _=>[⟨3,1,(vJ b W i).map intC,true,true⟩]) (fun n=>i*W≤n∧n≤8*b.length∧∀ m,i*W≤m→m<n→Fb b (m:Int)=0) (fun n=>8*b.length-n) (i*W) ⟨⟨rfl,all1 (AU (AX _))⟩,rfl,aI _,AQ2,fun m h1 h2=>AQ2⟩ ?_
  rintro n ⟨hn1,hn2,hz⟩
  simp only[go_sem,ae,e8]
  refine AAP (fun h2=>?_) (fun h2=>?_)
  ·have hn':n<8*b.length:=by simp at h2; omega
   simp only[go_sem]
   refine AAN _ (Zl b _ hb hl AQ2) fun _=>?_
   exact AKE
  ·exact AN2
def Yj (l:List Int) (w:Int):Prop:=(0≤w∧w≤31)∧∀ n∈l,(0≤n∧n≤2147483647)∧A8 n≤w
def pb (l:List Int) (W N m:Nat):Int:=Gy l (W:Int) m (min 8 (N-8*m))
def X9 (l:List Int) (W N c:Nat):List Int:=(List.range c).map fun m=>pb l W N m
theorem Nw (l:List Int) (W N c:Nat):(X9 l W N c).length=c:=by simp[X9]
theorem Vt (l:List Int) (w:Int) (n:Nat):0≤FO l w n∧FO l w n≤1:=by
 unfold FO
 split<;>omega
theorem Zm (l:List Int) (w:Int) (m:Nat):∀ t:Nat,0≤Gy l w m t∧Gy l w m t<2 ^ t
 | 0=>by simp[Gy]
 | t+1=>by
  have h1:=Zm l w m t
  have h2:=Vt l w (8*m+t)
  have hp:(0:Int)<2 ^ t:=Int.pow_pos AQ2
  have h3:0≤FO l w (8*m+t)*2 ^ t:=abe h2.1 AQ2
  have h4:FO l w (8*m+t)*2 ^ t≤1*2 ^ t:=aak h2.2 AQ2
  rw[Gy,abp]; omega
theorem zk {l:List Int} {W n:Nat} (h:l.length*W≤n) (hW:0<W):FO l (W:Int) n=0:=by
 unfold FO
 rw[YM,aaq]
 exact(Nat.le_div_iff_mul_le hW).2 h
theorem Xq {l:List Int} {W m:Nat} (hW:0<W):∀ t s:Nat,l.length*W≤8*m+t→Gy l (W:Int) m (t+s)=Gy l (W:Int) m t
 | t,0,_=>rfl
 | t,s+1,h=>by
  rw[show t+(s+1)=(t+s)+1 from AQ2,Gy,zk AQ2 hW,Xq hW t s h]; simp
theorem AKl {l:List Int} {W m:Nat} (hW:0<W):pb l W (l.length*W) m=Gy l (W:Int) m 8:=by
 unfold pb
 rcases bZ (l.length*W-8*m) 8 with h | h
 ·rw[Nat.min_eq_right AQ2]
  have:=Xq (l:=l) (m:=m) hW (l.length*W-8*m) (8-(l.length*W-8*m)) AQ2
  rw[← this]; congr 1; omega
 ·rw[dO h]
theorem Zn {l:List Int} {W:Nat} (h:Yj l W):Eo l W=X9 l W (l.length*W) ((l.length*W+7)/8):=by
 unfold Eo X9
 unfold Yj at h
 rw[bG h,YM]
 refine aaW fun m hm=>?_
 have hm':=abJ.1 hm
 rcases abh W with rfl | hW
 ·omega
 ·exact(AKl hW).symm
theorem PV {l:List Int} {w:Int} (h:¬ Yj l w):Eo l w = []:=by
 unfold Eo
 exact bu h
theorem kH {l:List Int} {W i k:Nat} (hi:i<l.length) (hk:k<W):FO l (W:Int) (i*W+k)=l[i]/2 ^ k%2:=by
 unfold FO
 have e1:(i*W+k)/W=i:=by rw[Nat.mul_comm,Nat.mul_add_div AQ2,Nat.div_eq_of_lt hk]; rfl
 have e2:(i*W+k)%W=k:=by rw[Nat.mul_comm,Nat.mul_add_mod,abT hk]
 rw[YM,e1,e2,aC hi]
theorem eQ (l:List Int) (W N:Nat):pb l W (N+1) (N/8)=pb l W N (N/8)+FO l (W:Int) N*2 ^ (N%8):=by
 unfold pb
 have e1:min 8 (N+1-8*(N/8))=N%8+1:=AQ2
 have e2:min 8 (N-8*(N/8))=N%8:=AQ2
 rw[e1,e2,Gy]
 have e3:8*(N/8)+N%8=N:=AQ2
 rw[e3]
theorem ADG (l:List Int) (W N m:Nat) (h:m≠N/8):pb l W (N+1) m=pb l W N m:=by
 unfold pb
 have e1:min 8 (N+1-8*m)=min 8 (N-8*m):=AQ2
 rw[e1]
theorem AMo (l:List Int) (W N:Nat):0≤pb l W N (N/8)∧pb l W N (N/8)<2 ^ (N%8):=by
 unfold pb
 have e2:min 8 (N-8*(N/8))=N%8:=AQ2
 rw[e2]
 exact Zm _ _ _ _
theorem uT (l:List Int) (W N c:Nat) (h:N/8<c):((X9 l W N c).map byteC).set (N/8) [.v (.int .u8 (pb l W (N+1) (N/8)))]=(X9 l W (N+1) c).map byteC:=by
 apply abE
 intro m
 rw[vG]
 by_cases e:N/8=m
 ·subst e
  simp[X9,h,Py]
 ·simp only[bu e]
  simp only[X9,List.map_map,lg]
  cases hm:(List.range c)[m]? with
  | none=>rfl
  | some x =>
   have hx:x=m:=by
    rw[List.getElem?_range] at hm
    ·simpa using hm.symm
    ·have:=(aP.1 hm).1
     simpa using this
   subst hx
   simp only[dm,Function.comp,ADG l W N x (fun h=>e h.symm)]
theorem RH (l:List Int) (W N c:Nat) {m:Nat} (h:m<c):((X9 l W N c).map byteC)[m]?=some [.v (.int .u8 (pb l W N m))]:=by
 simp[X9,h,Py]
theorem AGx (l:List Int) (W c:Nat):List.replicate c [.v (.int .u8 0)]=(X9 l W 0 c).map byteC:=by
 apply abE
 intro m
 by_cases h:m<c
 ·rw[RH l W 0 c h,List.getElem?_replicate,bG h]; simp[pb,Gy]
 ·rw[aaq AQ5,aaq (by simp[Nw]; omega)]
theorem AJN {x:Int} {k:Nat} (h0:0≤x) (h1:x≤2147483647) (hk:k≤31):IntKind.i64.wrap (iZ .i64 (IntKind.i64.wrap (x.fdiv (2 ^ min k 64))) 1)=x/2 ^ k%2:=by
 have hP:0≤x/2 ^ k:=Int.ediv_nonneg h0 (aa5 AQ2)
 have hP2:x/2 ^ k≤x:=Int.ediv_le_self _ h0
 rw[aaN _ (aa5 AQ2),dO AQ2,wrap_i64 (n:=x/2 ^ k) AQ2 AQ2,AJM hP AQ2,wrap_i64 AQ2 AQ2]
theorem AKm {s:Nat} (h:s≤7):(1:Int)≤2 ^ s∧(2:Int) ^ s≤128:=by
 have:s=0∨s=1∨s=2∨s=3∨s=4∨s=5∨s=6∨s=7:=AQ2
 rcases this with rfl | rfl | rfl | rfl | rfl | rfl | rfl | rfl<;>decide
theorem AJO (l:List Int) (W N:Nat) {x:Int} (h0:0≤x) (h1:x≤1):IntKind.u8.wrap (orK .u8 (pb l W N (N/8)) (x*2 ^ (N%8)))=pb l W N (N/8)+x*2 ^ (N%8):=by
 have hb:=AMo l W N
 obtain⟨p1,p2⟩:=AKm (s:=N%8) AQ2
 have h3:0≤x*2 ^ (N%8):=abe h0 AQ2
 have h4:x*2 ^ (N%8)≤1*2 ^ (N%8):=aak h1 AQ2
 rw[jv .u8 hb.1 hb.2 h0 (by simp[IntKind.bits]; omega),wrap_u8 AQ2 AQ2]
theorem AGy {l:List Int} {W i k:Nat} (hi:i<l.length) (hk:k<W) (hW:W≤31) (h0:0≤l[i]) (h1:l[i]≤2147483647) :
  IntKind.u8.wrap (orK .u8 (pb l W (i*W+k) ((i*W+k)/8)) (IntKind.u8.wrap (IntKind.i64.wrap (IntKind.i64.wrap (iZ .i64 (IntKind.i64.wrap (l[i].fdiv (2 ^ min k 64))) 1)*2 ^ min ((i*W+k)%8) 64))))=pb l W (i*W+k+1) ((i*W+k)/8):=by
 have hbit:=kH (l:=l) hi hk
 have h01:=Vt l (W:Int) (i*W+k)
 obtain⟨p1,p2⟩:=AKm (s:=(i*W+k)%8) AQ2
 have h3:0≤FO l (W:Int) (i*W+k)*2 ^ ((i*W+k)%8):=abe h01.1 AQ2
 have h4:FO l (W:Int) (i*W+k)*2 ^ ((i*W+k)%8)≤1*2 ^ ((i*W+k)%8):=aak h01.2 AQ2
 rw[AJN h0 h1 AQ2,← hbit,dO AQ2,wrap_i64 AQ2 AQ2,wrap_u8 (n:=FO l (W:Int) (i*W+k)*2 ^ ((i*W+k)%8)) AQ2 AQ2,AJO l W _ h01.1 h01.2,eQ]
theorem zl (l:List Int) (W N c:Nat) (h:FO l (W:Int) N=0):X9 l W (N+1) c=X9 l W N c:=by
 unfold X9
 refine aaW fun m _=>?_
 by_cases e:m=N/8
 ·subst e; rw[eQ,h]; simp
 ·exact ADG l W N m e
theorem AEr (l:List Int) (W N:Nat) (h:N%8=0):(X9 l W N ((N+7)/8)).map byteC ++ [[.v (.int .u8 0)]]=(X9 l W N (N/8+1)).map byteC:=by
 have e:(N+7)/8=N/8:=AQ2
 have e2:min 8 (N-8*(N/8))=0:=AQ2
 rw[e,X9,X9,List.range_succ,bQ,bQ]
 simp[pb,e2,Gy,Py]
theorem zn (l:List Int) (w:Int) (hl:l.length≤1048576):∃ r:Bool,(r=true↔Yj l w)∧Ctr prog 455 [.c (.sl (l.map intC)),.c (.v (.int .i64 (w)))] [.val (.c (.v (.bool (r))))]:=by
 haveI:Decidable (Yj l w):=Classical.propDecidable _
 refine⟨decide (Yj l w),AQ3, ?_⟩
 refine CM call455 func455 ntmps455 results455 fun hw=>?_
 simp only[go_sem,ae]
 refine AAT 0 (A:=Nat) (fun x=>[(5,.c (.v (.int .i64 (x))))]) (fun _=>[]) (fun x=>x≤l.length∧∀ m (h:m<l.length),m<x→(0≤l[m]∧l[m]≤2147483647)∧A8 l[m]≤w) (fun x=>l.length-x) 0 ⟨⟨rfl,rfl⟩,rfl,au _,fun m h h2=>AQ2⟩ ?_
 rintro i ⟨hi,hb⟩
 refine AQy (fun h=>?_) fun h=>?_
 ·have hi':i<l.length:=by simpa using h
  simp only[go_sem,ae,AA _ hi']
  refine AAN _ (AQ _ _ _) fun _=>?_
  rcases h1:Ad l[i] 0 2147483647 with _ | _
  ·simp only[go_sem,h1]
   have:¬ Yj l w:=by
    rintro⟨_,q⟩
    have:=(q _ (aj hi')).1
    simp[Ad] at h1; omega
   simp only[this,abU]
  simp only[go_sem,h1,ae,AA _ hi']
  refine AAN _ (Jl _) fun _=>?_
  rcases h2:decide (A8 l[i]>w) with _ | _
  ·exact AN9
  ·simp only[go_sem,h1,h2]
   have:¬ Yj l w:=by
    rintro⟨_,q⟩
    have:=(q _ (aj hi')).2
    simp at h2; omega
   simp only[this,abU]
 ·have hi':i=l.length:=by simp at h; omega
  subst hi'
  simp only[go_sem]
  refine AAN _ (AQ _ _ _) fun _=>?_
  simp only[go_sem]
  have hall:∀ n∈l,(0≤n∧n≤2147483647)∧A8 n≤w:=fun n hn=>by
   obtain⟨m,hm,rfl⟩:=aaT hn
   exact hb m hm hm
  congr 4
  rw[Bool.eq_iff_iff]
  simp only[bC]
  constructor
  ·intro q; exact⟨by simp[Ad] at q; omega,hall⟩
  ·intro q; have:=q.1; simp[Ad]; omega
theorem kJ (l:List Int) (w:Int) (hl:l.length≤64):Ctr prog 448 [.c (.sl (l.map intC)),.c (.v (.int .i64 (w)))] [.own 5 1 ((Eo l w).map byteC) true]:=by
 refine CM call448 func448 ntmps448 results448 fun hw=>?_
 simp only[go_sem,ae]
 refine AAN _ (AL _ _ _) fun _=>?_
 rcases h1:Ad w 0 31 with _ | _
 ·have:¬ Yj l w:=by rintro⟨q,_⟩; simp[Ad] at h1; omega
  simp only[go_sem,h1,PV this,df]
  try simp[D7]
 have hw0:0≤w∧w≤31:=ARl
 obtain⟨W,rfl⟩:=aU hw0.1
 simp only[go_sem,h1,ae]
 refine AAT 0 (A:=Nat) (fun x=>[(17,.c (.v (.int .i64 (x))))]) (fun _=>[]) (fun x=>x≤l.length∧∀ m (h:m<l.length),m<x→(0≤l[m]∧l[m]≤2147483647)∧A8 l[m]≤W) (fun x=>l.length-x) 0 ⟨⟨rfl,rfl⟩,rfl,au _,fun m h h2=>AQ2⟩ ?_
 rintro i ⟨hi,hb⟩
 refine AQy (fun h=>?_) fun h=>?_
 ·have hi':i<l.length:=by simpa using h
  simp only[go_sem,ae,AA _ hi']
  refine AAN _ (AL _ _ _) fun _=>?_
  rcases h1:Ad l[i] 0 2147483647 with _ | _
  ·simp only[go_sem,h1]
   have:¬ Yj l W:=by
    rintro⟨_,q⟩
    have:=(q _ (aj hi')).1
    simp[Ad] at h1; omega
   rw[PV this]
   simp only[go_sem]
   try simp[D7]
  simp only[go_sem,h1,ae,AA _ hi']
  refine AAN _ (L8 _) fun _=>?_
  rcases h2:decide (A8 l[i]>W) with _ | _
  ·exact AN9
  ·simp only[go_sem,h1,h2]
   have:¬ Yj l W:=by
    rintro⟨_,q⟩
    have:=(q _ (aj hi')).2
    simp at h2; omega
   rw[PV this]
   simp only[go_sem]
   try simp[D7]
 have hi':i=l.length:=ARD
 subst hi'
 have hfit:Yj l W:=⟨hw0,fun n hn=>by
  obtain⟨m,hm,rfl⟩:=aaT hn
  exact hb m hm hm⟩
 have hLW:l.length*W≤64*31:=abw AQ2 AQ2
 have eLW:(l.length:Int)*W=((l.length*W:Nat):Int):=AQ3
 have e1:IntKind.i64.wrap ((l.length:Int)*W)=((l.length*W:Nat):Int):=by rw[wrap_i64 AQ2 AQ2,eLW]
 have e2:IntKind.i64.wrap (((l.length*W:Nat):Int)+7)=((l.length*W+7:Nat):Int):=AQ7
 obtain⟨c,hcd⟩:∃ c,c=(l.length*W+7)/8:=⟨_,rfl⟩
 have e3:IntKind.i64.wrap ((((l.length*W+7:Nat):Int)).tdiv 8)=(c:Int):=ARK
 have hf1:(0≤(c:Int))=True:=AQ3
 have hf2:((c:Int)≤(c:Int))=True:=AQ3
 have hf3:((c:Int)≤2147483648)=True:=AQ5
 simp only[go_sem,ae,e1,e2,e3,hf1,hf2,hf3,AGx l W]
 rw[Zn hfit,← hcd]
 refine AAT 1 (A:=Nat) (fun i=>[(40,.c (.v (.int .i64 (i))))]) (fun i=>[⟨5,1,(X9 l W (i*W) c).map byteC,true,true⟩]) (fun i=>i≤l.length) (fun i=>l.length-i) 0 ⟨⟨rfl,all1 (AU (CE _))⟩,by rw[Nat.zero_mul]; rfl,au _⟩ ?_
 intro i hi
 refine AQy (fun h=>?_) fun h=>?_
 ·have hi':i<l.length:=by simpa using h
  have hli:=hb i hi' hi'
  simp only[go_sem,ae,AA _ hi']
  refine AAT 1 (A:=Nat) (fun k=>[(10,.c (.v (.int .i64 (k))))]) (fun k=>[⟨5,1,(X9 l W (i*W+k) c).map byteC,true,true⟩]) (fun k=>k≤W) (fun k=>W-k) 0 ⟨⟨rfl,all1 (AU (CE _))⟩,rfl,au _⟩ ?_
  intro k hk
  refine AQy (fun h=>?_) fun h=>?_
  ·have hk':k<W:=by simp at h; omega
   have hN:i*W+k<l.length*W:=by
    have:(i+1)*W≤l.length*W:=aaG _ hi'
    rw[sD] at this; omega
   have hNc:(i*W+k)/8<c:=AQ2
   have hiW:i*W≤64*31:=abw AQ2 AQ2
   have eiW:(i:Int)*W=((i*W:Nat):Int):=AQ3
   have q1:IntKind.i64.wrap ((i:Int)*W)=((i*W:Nat):Int):=by rw[wrap_i64 AQ2 AQ2,eiW]
   have q2:IntKind.i64.wrap (((i*W:Nat):Int)+k)=((i*W+k:Nat):Int):=AQ7
   have q3:IntKind.i64.wrap ((((i*W+k:Nat):Int)).tdiv 8)=(((i*W+k)/8:Nat):Int):=ARK
   have q4:IntKind.i64.wrap ((((i*W+k:Nat):Int)).tmod 8)=(((i*W+k)%8:Nat):Int):=ARV
   simp only[go_sem,ae,q1,q2,q3,q4,Nw,RH l W _ c hNc,hNc]
   refine AAR ?_
   simp only[go_sem,ae,q1,q2,q3,q4,Nw,RH l W _ c hNc,hNc]
   rw[AGy hi' hk' AQ2 hli.1.1 hli.1.2,uT l W _ c hNc]
   simp only[wrap_i64 (n:=(k:Int)+1) AQ2 AQ2]
   exact⟨k+1,⟨rfl,all1 (AU (CE _))⟩,rfl,hk',AQ2⟩
  ·have hk':k=W:=by simp at h; omega
   subst hk'
   simp only[go_sem,wrap_i64 (n:=(i:Int)+1) AQ2 AQ2]
   exact⟨i+1,⟨rfl,all1 (AU (CE _))⟩,by rw[sD,Nat.one_mul]; rfl,hi',AQ2⟩
 ·have hi':i=l.length:=by simp at h; omega
  subst hi'
  simp only[go_sem,CE]
  try exact AHA
theorem kK (l:List Int) (w:Int) (hl:l.length≤64):Ctr prog 436 [.c (.sl (l.map intC)),.c (.v (.int .i64 (w)))] [.own 5 1 ((Eo l w).map byteC) true]:=by
 refine CM call436 func436 ntmps436 results436 fun hw=>?_
 simp only[go_sem,ae]
 obtain⟨r,hr,hc⟩:=zn l w AQ2
 refine AAN _ hc fun _=>?_
 cases r with
 | false =>
  have:¬ Yj l w:=fun q=>by have:=hr.2 q; cases this
  simp only[go_sem,PV this,df]
  try simp[D7]
 | true =>
 have hfit:=hr.1 rfl
 simp only[go_sem,ae]
 obtain⟨W,rfl⟩:=aU hfit.1.1
 have hW31:W≤31:=by have:=hfit.1.2; omega
 have hLW:l.length*W≤64*31:=abw AQ2 AQ2
 rw[Zn hfit]
 refine AAU [9] (A:=Nat) (fun i=>[(7,.c (.v (.int .i64 (i)))),(6,.c (.v (.int .i64 ((i*W:Nat):Int)))),(5,.c (.ref 0))]) (fun i=>[⟨5,1,(X9 l W (i*W) ((i*W+7)/8)).map byteC,true,true⟩]) (fun i=>i≤l.length) (fun i=>l.length-i) 0 (AAQ [(0,false)] ⟨rfl,rfl,rfl,trivial⟩ (by rw[Nat.zero_mul]; rfl)) (au _) ?_
 intro i hi
 refine AQy (fun h=>?_) fun h=>?_
 ·have hi':i<l.length:=by simp at h; omega
  have hli:=hfit.2 _ (aj hi')
  simp only[go_sem,ae]
  refine AAU [] (A:=Nat) (fun k=>[(8,.c (.v (.int .i64 (k)))),(6,.c (.v (.int .i64 ((i*W+k:Nat):Int)))),(5,.c (.ref 0))]) (fun k=>[⟨5,1,(X9 l W (i*W+k) ((i*W+k+7)/8)).map byteC,true,true⟩]) (fun k=>k≤W) (fun k=>W-k) 0 (AAQ [(0,false)] ⟨rfl,rfl,AP byteC.pure,trivial⟩ rfl) (au _) ?_
  intro k hk
  refine AQy (fun h=>?_) fun h=>?_
  ·have hk':k<W:=by simp at h; omega
   have hN:i*W+k<l.length*W:=by
    have:(i+1)*W≤l.length*W:=aaG _ hi'
    rw[sD] at this; omega
   have hbit:=kH (l:=l) hi' hk'
   generalize hNN:i*W+k=N at hN hbit
   have q3:IntKind.i64.wrap (((N:Nat):Int).tdiv 8)=((N/8:Nat):Int):=ARK
   have q4:IntKind.i64.wrap (((N:Nat):Int).tmod 8)=((N%8:Nat):Int):=ARV
   have q5:IntKind.i64.wrap ((N:Int)+1)=((N+1:Nat):Int):=AQ7
   have q6:IntKind.i64.wrap ((k:Int)+1)=((k+1:Nat):Int):=AQ7
   have hNc:N/8<N/8+1:=AQ2
   have hol2:(N+7)/8+1≤2147483648:=AQ2
   have hs1:=AJN (k:=k) hli.1.1 hli.1.2 AQ2
   rw[← hbit] at hs1
   have h01:=Vt l (W:Int) N
   obtain⟨p1,p2⟩:=AKm (s:=N%8) AQ2
   have hsh:IntKind.u8.wrap (1*2 ^ min (N%8) 8)=1*2 ^ (N%8):=by rw[dO AQ2,wrap_u8 AQ2 AQ2]
   have hor:=AJO l W N (x:=1) AQ2 AQ2
   rcases h8:((N%8:Nat):Int)==0 with _ | _<;>rcases h9:FO l (W:Int) N==1 with _ | _
   all_goals
    have hsn:N%8=0→(X9 l W N ((N+7)/8)).map byteC ++ [[.v (.int .u8 0)]]=(X9 l W N (N/8+1)).map byteC:=AEr l W N
   case false.false =>
    have e0:FO l (W:Int) N=0:=by simp at h9; omega
    have h8':N%8≠0:=by simp at h8; omega
    simp only[go_sem,ae,q3,q4,q5,q6,h8,h9,hs1,AA _ hi',Nw]
    have hr:X9 l W (N+1) ((N+1+7)/8)=X9 l W N ((N+7)/8):=by rw[zl l W N _ e0,show (N+1+7)/8=(N+7)/8 from AQ2]
    exact⟨k+1,AAQ [(0,false)] ⟨rfl,rfl,AP byteC.pure,trivial⟩ (by rw[show i*W+(k+1)=N+1 from AQ2,hr]; rfl),hk',AQ2⟩
   case true.false =>
    have e0:FO l (W:Int) N=0:=by simp at h9; omega
    have h8':N%8=0:=by simp at h8; omega
    have hsn:=hsn h8'
    simp only[go_sem,ae,aW,bn,q3,q4,q5,q6,h8,h9,hs1,hsn,hol2,ak,AA _ hi',Nw]
    have hr:X9 l W (N+1) ((N+1+7)/8)=X9 l W N (N/8+1):=by rw[zl l W N _ e0,show (N+1+7)/8=N/8+1 from AQ2]
    exact⟨k+1,AAQ [(2,false)] ⟨rfl,rfl,AP byteC.pure,trivial⟩ (by rw[show i*W+(k+1)=N+1 from AQ2,hr]; rfl),hk',AQ2⟩
   case false.true =>
    have e1:FO l (W:Int) N=1:=by simpa using h9
    have h8':N%8≠0:=by simp at h8; omega
    have ec:(N+7)/8=N/8+1:=AQ2
    have hv:pb l W N (N/8)+1*2 ^ (N%8)=pb l W (N+1) (N/8):=by rw[eQ,e1]
    rw[hv] at hor
    have hset:=uT l W N (N/8+1) hNc
    simp only[go_sem,ae,q3,q4,q5,q6,h8,h9,hs1,ec,hsh,hor,AA _ hi',Nw,RH l W N _ hNc,hNc]
    refine AAR ?_
    simp only[go_sem,ae,q3,q4,q5,q6,h8,h9,hs1,ec,hsh,hor,AA _ hi',Nw,RH l W N _ hNc,hNc,hset]
    exact⟨k+1,AAQ [(0,false)] ⟨rfl,rfl,AP byteC.pure,trivial⟩ (by rw[show i*W+(k+1)=N+1 from AQ2,show (N+1+7)/8=N/8+1 from AQ2]; rfl),hk',AQ2⟩
   case true.true =>
    have e1:FO l (W:Int) N=1:=by simpa using h9
    have h8':N%8=0:=by simp at h8; omega
    have hsn:=hsn h8'
    have hv:pb l W N (N/8)+1*2 ^ (N%8)=pb l W (N+1) (N/8):=by rw[eQ,e1]
    rw[hv] at hor
    have hset:=uT l W N (N/8+1) hNc
    simp only[go_sem,ae,aW,bn,q3,q4,q5,q6,h8,h9,hs1,hsn,hol2,ak,hsh,hor,AA _ hi',Nw,RH l W N _ hNc,hNc]
    refine AAR ?_
    simp only[go_sem,ae,q3,q4,q5,q6,h8,h9,hs1,hsn,hsh,hor,AA _ hi',Nw,RH l W N _ hNc,hNc,hset]
    exact⟨k+1,AAQ [(2,false)] ⟨rfl,rfl,AP byteC.pure,trivial⟩ (by rw[show i*W+(k+1)=N+1 from AQ2,show (N+1+7)/8=N/8+1 from AQ2]; rfl),hk',AQ2⟩
  ·have hk':k=W:=by simp at h; omega
   subst hk'
   simp only[go_sem,wrap_i64 (n:=(i:Int)+1) AQ2 AQ2]
   exact⟨i+1,AAQ [(0,false)] ⟨rfl,rfl,AP byteC.pure,trivial⟩ (by rw[sD,Nat.one_mul]; rfl),hi',AQ2⟩
 ·have hi':i=l.length:=by simp at h; omega
  subst hi'
  simp only[go_sem,CE]
  try exact AHA
end Go.Proofs.YthmifbbmgnhddaaGreat
