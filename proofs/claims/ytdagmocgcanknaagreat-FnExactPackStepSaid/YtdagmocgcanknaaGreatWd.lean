/- A part. -/
import Derived.Test.YtdagmocgcanknaaGreatZx
set_option linter.unusedSimpArgs false
set_option linter.unusedVariables false
set_option maxHeartbeats 2000000
namespace Go.Proofs.YtdagmocgcanknaaGreat
open Go.Vm
noncomputable def Eb (kind:Int) (l:List DVal):List Int:=if kind=0 then Ep l else if kind=1 then Fa l else if kind=2 then Ed l else if kind=3 then Dq l else []
noncomputable def bk1 (l:List DVal):Int:=if(Eb 1 l).length<(Eb 0 l).length then 1 else 0
noncomputable def bk2 (l:List DVal):Int:=if(Eb 2 l).length<(Eb (bk1 l) l).length then 2 else bk1 l
noncomputable def bk3 (l:List DVal):Int:=if typeOf l=1/\(Eb 3 l).length<(Eb (bk2 l) l).length then 3 else bk2 l
noncomputable def BG (l:List DVal):Int:=if typeOf l=0 then -1 else bk3 l
noncomputable def A8 (l:List DVal):List Int:=if BG l<0 then [] else BG l::Eb (BG l) l
noncomputable def Xr (b:List Int) (ty k:Int):Option (List DVal):=match b with
 | []=>none
 | c::r=>if c=0 then Gu r ty k else if c=1 then Ec r ty k else if c=2 then GK r ty k else if c=3 then Et r k else none
noncomputable def vJ (b:List Int) (ty k:Int):Option (List DVal):=match b with
 | []=>none
 | c::r=>if c=0 then Pm r ty k else if c=1 then Ec r ty k else if c=2 then KO r ty k else if c=3 then JH r k else none
noncomputable def JS (b:List Int) (ty k:Int):Option (List DVal):=if 1<=ty/\ty<=2 then match Xr b ty k with
  | none=>none
  | some l=>if typeOf l=ty/\A8 l=b then some l else none
 else none
noncomputable def Zi (b:List Int) (ty k:Int):Option (List DVal):=if b = [] then none else
 if typeOf ((vJ b ty k).getD [])=ty then again b k ((vJ b ty k).getD []) (A8 ((vJ b ty k).getD [])) else none
theorem AAr {b:List Int} (hb:Ai b) (ty k:Int):vJ b ty k=Xr b ty k:=by
 cases b with
 | nil=>rfl
 | cons c r =>
  have hr:Ai r:=fun x hx=>hb x AP3
  simp only[vJ,Xr,Yk hr,eU hr,Yl]
theorem y8 {b:List Int} (hb:Ai b) {ty k:Int} {l:List DVal} (h:Ec b ty k=some l):(1<=k/\k<=64/\(l.length:Int)=k)/\typeOf l≠0:=by
 unfold Ec at h;cases hn:Bh b 0 with
 | none=>simp[hn] at h
 | some x =>
  obtain⟨n,p⟩:=x
  obtain⟨_,_,hne⟩:=WC hb hn
  simp only[hn] at h
  split at h
  .split at h
   .cases h
   .obtain⟨h1,h2,h3,h4,h5⟩:=ACG h
    rw[h1]
    refine⟨⟨h2,h3,h4⟩,fun h0=>hne ?_⟩
    rw[h5,Fa,aV h0]
  .cases h
theorem y9 {b:List Int} (hb:Ai b) {ty k:Int} {l:List DVal} (h:GK b ty k=some l):(1<=k/\k<=64/\(l.length:Int)=k)/\typeOf l≠0:=by
 unfold GK at h;cases hn:Bh b 0 with
 | none=>simp[hn] at h
 | some x =>
  obtain⟨n,p⟩:=x
  obtain⟨_,_,hne⟩:=WC hb hn
  simp only[hn] at h
  split at h
  .rename_i hk
   split at h
   .cases h
   .split at h
    .cases h
    .rename_i o hu
     split at h
     .cases h
     .rename_i l' hp
      split at h
      .rename_i he
       simp only[ai] at h
       subst h
       have h1:=N_ hu
       have h2:=OA hp
       refine⟨⟨hk.1.1,hk.1.2,AOl⟩,fun h0=>hne ?_⟩
       rw[<- he,Ed,aV h0]
      .cases h
  .cases h
theorem vK {b:List Int} (hb:Ai b) {k:Int} {l:List DVal} (h:Et b k=some l):(1<=k/\k<=64/\(l.length:Int)=k)/\typeOf l≠0:=by
 unfold Et at h;cases hn:Bh b 0 with
 | none=>simp[hn] at h
 | some x =>
  obtain⟨n,p⟩:=x
  obtain⟨_,_,hne⟩:=WC hb hn
  simp only[hn] at h
  split at h
  .cases h
  .split at h
   .rename_i hk
    split at h
    .cases h
    .rename_i o hu
     split at h
     .cases h
     .rename_i l' hp
      split at h
      .rename_i he
       simp only[ai] at h
       subst h
       have h1:=N_ hu
       have h2:=QW hp
       refine⟨⟨hk.1,hk.2,AOl⟩,fun h0=>hne ?_⟩
       rw[<- he,Dq,aV AOl]
      .cases h
   .cases h
theorem vM {b:List Int} (hb:Ai b) {ty k:Int} {l:List DVal} (h:Gu b ty k=some l):typeOf l≠0:=by
 unfold Gu at h;split at h
 .rename_i hk;cases hv:Cc b ty k.toNat 0 with
  | none=>simp[hv] at h
  | some x =>
   obtain⟨l',q⟩:=x
   simp only[hv] at h
   split at h
   .simp only[ai] at h
    subst h
    obtain⟨_,_,c3,c4,_⟩:=Jq hb k.toNat 0 _ q (aq _) hv
    have h0:0<l'.length:=AOl
    have hty:=(c4 _ (an h0)).2.2
    rw[TW (ty:=ty) AOl AOl fun v hv=>⟨(c4 v hv).1,(c4 v hv).2.1⟩]
    omega
   .cases h
 .cases h
theorem Lm {b:List Int} (hb:Ai b) {ty k:Int} {l:List DVal} (h:Xr b ty k=some l):(1<=k/\k<=64/\(l.length:Int)=k)/\typeOf l≠0:=by
 cases b with
 | nil=>cases h
 | cons c r =>
  have hr:Ai r:=fun x hx=>hb x AP3
  simp only[Xr] at h
  split at h
  .exact⟨vS hr h,vM hr h⟩
  .split at h
   .exact y8 hr h
   .split at h
    .exact y9 hr h
    .split at h
     .exact vK hr h
     .cases h
theorem ACC {b:List Int} (hb:Ai b) (ty k:Int):Zi b ty k=JS b ty k:=by
 unfold Zi JS;rw[AAr hb];by_cases h0:b = []
 .rw[aV h0,h0];simp[Xr]
 .rw[aR h0];cases hd:Xr b ty k with
  | none =>
   simp only[ww]
   have ht:typeOf []=0:=rfl
   rw[ht]
   unfold again
   by_cases h1:(0:Int)=ty
   .rw[aV h1,aR (by simp only[aj]; omega)]
    split<;>rfl
   .rw[aR h1]
    split<;>rfl
  | some l =>
   obtain⟨⟨k1,k2,k3⟩,k4⟩:=Lm hb hd
   simp only[au]
   by_cases h1:typeOf l=ty
   .rw[aV h1,aV (by have:=AED l; omega)]
    unfold again
    by_cases h2:A8 l=b
    .rw[aV ⟨k1,k2,k3,h2.symm⟩,aV ⟨h1,h2⟩]
    .rw[aR fun h3=>h2 h3.2.2.2.symm,aR fun h3=>h2 h3.2]
   .rw[aR h1]
    split
    .rw[aR fun h3=>h1 h3.1]
    .rfl
theorem Xt {b:List Int} (hb:Ai b) {ty k:Int} {l:List DVal} (h:JS b ty k=some l):(l.length:Int)=k/\typeOf l=ty/\A8 l=b:=by
 unfold JS at h;split at h
 .cases hd:Xr b ty k with
  | none=>simp[hd] at h
  | some l' =>
   simp only[hd] at h
   split at h
   .rename_i he
    simp only[ai] at h
    subst h
    exact⟨(Lm hb hd).1.2.2,he⟩
   .cases h
 .cases h
def Ik (b:List Int):Nat->Nat->Option (List Int×Nat)
 | 0,p=>some ([],p)
 | k+1,p=>match Bh b p with
  | none=>none
  | some (n,q)=>(Ik b k q).map fun x=>(n::x.1,x.2)
def FZ (b:List Int) (p:Int):Option (List Int×Nat):=match Bh b p with
 | none=>none
 | some (k,q)=>if 0<=k/\k<=64 then Ik b k.toNat q else none
def JM (l:List Int):List Int:=Ey l.length++(l.map Ey).flatten
theorem eF {b:List Int} (hb:Ai b):∀ (k p:Nat) (l:List Int) (q:Nat),p<=b.length->Ik b k p=some (l,q) ->
  p<=q/\q<=b.length/\l.length=k/\(b.drop p).take (q-p)=(l.map Ey).flatten
 | 0,p,l,q,hp,h=>by simp only[Ik,ai,bb] at h;obtain⟨rfl,rfl⟩:=h;exact⟨aG _,hp,rfl,AOm⟩
 | k+1,p,l,q,hp,h=>by
  rw[Ik] at h;cases hv:Bh b p with
  | none=>simp[hv] at h
  | some x =>
   obtain⟨v,m⟩:=x
   simp only[hv] at h
   cases hr:Ik b k m with
   | none=>simp[hr] at h
   | some y =>
    obtain⟨l',q'⟩:=y
    simp only[hr,bi,ai,bb] at h
    obtain⟨rfl,rfl⟩:=h
    obtain⟨_,a2,a3,_,_,a6⟩:=IW hb hv
    obtain⟨c1,c2,c3,c5⟩:=eF hb k m l' q' a3 hr
    refine⟨AOl,c2,by simp[c3], ?_⟩
    rw[TU b (p:=p) (q:=m) (r:=q') AOl c1,c5]
    have:(b.drop p).take (m-p)=Ey v:=by simpa using a6
    rw[this]; rfl
theorem Uw {b:List Int} (hb:Ai b) {l:List Int} {q:Nat} (h:FZ b 0=some (l,q)):q<=b.length/\l.length<=64/\b.take q=JM l:=by
 unfold FZ at h;cases hn:Bh b 0 with
 | none=>simp[hn] at h
 | some x =>
  obtain⟨k,p⟩:=x
  simp only[hn] at h
  split at h
  .rename_i hk
   obtain⟨_,a2,a3,_,_,a6⟩:=IW hb hn
   obtain⟨c1,c2,c3,c5⟩:=eF hb k.toNat p l q a3 h
   refine⟨c2,AOl, ?_⟩
   have e1:=TU b (p:=0) (q:=p) (r:=q) (aq _) c1
   simp only[abb,yG] at e1
   have e2:b.take p=Ey k:=by simpa using a6
   rw[e1,c5,e2,JM,c3]
   congr 2
   omega
  .cases h
noncomputable def WA (l:List DVal):List Int:=Ey (A8 l).length++A8 l
noncomputable def Hq (b:List Int) (n:Nat):List Int->Nat->Option (List (List DVal)×Nat)
 | [],p=>some ([],p)
 | ty::r,p=>match Bh b p with
  | none=>none
  | some (m,q)=>if 0<=m/\m<=(b.length:Int)-q then match JS ((b.drop q).take m.toNat) ty n with
    | none=>none
    | some l=>(Hq b n r (q+m.toNat)).map fun x=>(l::x.1,x.2)
   else none
theorem eG {b:List Int} (hb:Ai b) (n:Nat):∀ (cols:List Int) (p:Nat) (cs:List (List DVal)) (q:Nat),p<=b.length->Hq b n cols p=some (cs,q) ->
  p<=q/\q<=b.length/\cs.length=cols.length/\(∀ c∈cs,c.length=n)/\(b.drop p).take (q-p)=(cs.map WA).flatten
 | [],p,cs,q,hp,h=>by simp only[Hq,ai,bb] at h;obtain⟨rfl,rfl⟩:=h;exact⟨aG _,hp,rfl,AOm,AOm⟩
 | ty::r,p,cs,q,hp,h=>by
  rw[Hq] at h;cases hv:Bh b p with
  | none=>simp[hv] at h
  | some x =>
   obtain⟨m,q1⟩:=x
   simp only[hv] at h
   split at h
   .rename_i hm
    cases hd:JS ((b.drop q1).take m.toNat) ty n with
    | none=>simp[hd] at h
    | some l =>
     simp only[hd] at h
     cases hr:Hq b n r (q1+m.toNat) with
     | none=>simp[hr] at h
     | some y =>
      obtain⟨cs',q'⟩:=y
      simp only[hr,bi,ai,bb] at h
      obtain⟨rfl,rfl⟩:=h
      obtain⟨_,a2,a3,_,_,a6⟩:=IW hb hv
      obtain⟨d1,_,d3⟩:=Xt (TV hb _ _) hd
      obtain⟨c1,c2,c3,c4,c5⟩:=eG hb n r (q1+m.toNat) cs' q' AOl hr
      refine⟨AOl,c2,by simp[c3],fun c hc=>?_, ?_⟩
      .rcases TM.1 hc with rfl | hc
       .omega
       .exact c4 c hc
      .rw[TU b (p:=p) (q:=q1) (r:=q') AOl AOl,TU b (p:=q1) (q:=q1+m.toNat) (r:=q') AOl c1,c5]
       have e1:(b.drop p).take (q1-p)=Ey m:=by simpa using a6
       have e2:q1+m.toNat-q1=m.toNat:=AOl
       have e3:(A8 l).length=m.toNat:=by rw[d3]; simp; omega
       rw[e1,e2,<- d3]
       simp only[ao,XV,WA,e3,ba]
       congr 2
       omega
   .cases h
def rowsOf (ids:List Int) (cs:List (List DVal)):List DRow:=(List.range ids.length).map fun i=>⟨(ids[i]?).getD 0,cs.map fun c=>(c[i]?).getD zeroW⟩
where zeroW:DVal:=⟨0,0,ByteArray.empty⟩
theorem y_ (ids:List Int) (cs:List (List DVal)):(rowsOf ids cs).map DRow.id=ids:=by unfold rowsOf;rw[List.map_map];exact ANB
theorem D6 (ids:List Int) (cs:List (List DVal)):(rowsOf ids cs).length=ids.length:=by simp[rowsOf]
theorem filterMap_map {α β:Type} {f:α->Option β} {g:α->β}:∀ (l:List α),(∀ x∈l,f x=some (g x))->l.filterMap f=l.map g
 | [],_=>rfl
 | x::l,h=>by rw[List.filterMap_cons,h x AOm,ao,filterMap_map l fun y hy=>h y AP_]
theorem ACD (l:List DVal) (z:DVal):(List.range l.length).map (fun i=>(l[i]?).getD z)=l:=by exact ANB
theorem zA {ids:List Int} {cs:List (List DVal)} (h:∀ c∈cs,c.length=ids.length) {k:Nat} (hk:k<cs.length):Ha (rowsOf ids cs) k=cs[k]:=by
 have hl:=h _ (an hk);unfold Ha rowsOf;rw[List.filterMap_map,filterMap_map (g:=fun i=>((cs[k])[i]?).getD rowsOf.zeroW),<- hl]
 .exact ACD _ _
 .intro i hi;have hi':i<(cs[k]).length:=by rw[hl]; simpa using hi
  simp[hk,hi']
noncomputable def DD (cols:List Int) (l:List DRow):Bool:=(FX cols&&decide (l.length<=12))&&(Uc cols l&&decide (∀ r∈l,r.id<=1000000000))
noncomputable def Au (cols:List Int) (l:List DRow):List Int:=
 if DD cols l=true then JM (l.map DRow.id)++(if l = [] then [] else((List.range cols.length).map fun(k:Nat)=>WA (Ha l (k:Int))).flatten) else []
noncomputable def GV (b:List Int) (cols ids:List Int) (p:Nat):Option (List (List DVal)×Nat):=if ids = [] then some ([],p) else Hq b ids.length cols p
noncomputable def C_ (cols b:List Int):Option (List DRow):=match FZ b 0 with
 | none=>none
 | some (ids,p)=>if FX cols=true/\ids.length<=12 then match GV b cols ids p with
   | none=>none
   | some (cs,q)=>if q=b.length/\DD cols (rowsOf ids cs)=true then some (rowsOf ids cs) else none
  else none
noncomputable def Jz (cols b:List Int):Option (List DRow):=match FZ b 0 with
 | none=>none
 | some (ids,p)=>if FX cols=true then match GV b cols ids p with
   | none=>none
   | some (cs,_)=>if DD cols (rowsOf ids cs)=true/\Au cols (rowsOf ids cs)=b then some (rowsOf ids cs) else none
  else none
theorem zB {b:List Int} {q:Nat} (h:q<=b.length):b.take q=b↔q=b.length:=by
 constructor
 .intro e;have:=congrArg List.length e;simp only[aU] at this;omega
 .rintro rfl;exact aX
theorem vN {b:List Int} (hb:Ai b) (cols:List Int):Jz cols b=C_ cols b:=by
 unfold Jz C_;cases hn:FZ b 0 with
 | none=>rfl
 | some x =>
  obtain⟨ids,p⟩:=x
  obtain⟨n1,n2,n3⟩:=Uw hb hn
  dsimp only
  by_cases hc:FX cols=true
  .rw[aV hc]
   cases hg:GV b cols ids p with
   | none=>dsimp only; split<;>rfl
   | some y =>
    obtain⟨cs,q⟩:=y
    dsimp only
    by_cases h12:ids.length<=12
    .have key:DD cols (rowsOf ids cs)=true->(Au cols (rowsOf ids cs)=b↔q=b.length):=by
      intro hok
      have hput:Au cols (rowsOf ids cs)=b.take q/\q<=b.length:=by
       unfold Au
       rw[aV hok,y_,<- n3]
       unfold GV at hg
       by_cases hi:ids = []
       .rw[aV hi] at hg
        simp only[ai,bb] at hg
        obtain⟨rfl,rfl⟩:=hg
        rw[aV (by apply aam; rw[D6,hi]; rfl)]
        exact⟨AOm,n1⟩
       .rw[aR hi] at hg
        obtain⟨c1,c2,c3,c4,c5⟩:=eG hb ids.length cols p cs q n1 hg
        rw[aR (by intro h0; have:=D6 ids cs; rw[h0] at this; exact hi (aam this.symm))]
        have e1:=TU b (p:=0) (q:=p) (r:=q) (aq _) c1
        simp only[abb,yG] at e1
        refine⟨?_,c2⟩
        rw[e1,c5]
        congr 2
        apply abF
        .simp[c3]
        .intro k h1 h2
         have hk:k<cs.length:=APc
         simp only[List.getElem_map,List.getElem_range]
         rw[zA c4 hk]
      rw[hput.1]
      exact zB hput.2
     by_cases hok:DD cols (rowsOf ids cs)=true
     .simp only[hok,key hok,hc,h12,true_and,yH,and_self,aO]
     .simp only[hok,hc,h12,false_and,and_false,and_self,aO,aL,ax]
    .have hok:¬ DD cols (rowsOf ids cs)=true:=by
      intro h
      simp only[DD,ar,aQ,D6] at h
      exact h12 h.1.2
     simp only[hok,h12,false_and,and_false,aL,ax]
  .rw[aR hc,aR fun h=>hc h.1]
