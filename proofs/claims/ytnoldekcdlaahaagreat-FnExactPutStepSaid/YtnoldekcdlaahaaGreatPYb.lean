/- A part. -/
import Derived.Test.YtnoldekcdlaahaaGreatPYt
import Derived.Test.YtnoldekcdlaahaaGreatPZx
import Derived.Test.YtnoldekcdlaahaaGreatPYa
set_option linter.unusedSimpArgs false
set_option linter.unusedVariables false
set_option maxHeartbeats 2000000
set_option maxRecDepth 10000
open Go.Proofs.Tryz
namespace Go.Proofs.YtnoldekcdlaahaaGreat
open Go.Vm
noncomputable def EZ (kind:Int) (l:List DVal):List Int:=if kind=0 then Em l else if kind=1 then FX l else if kind=2 then Eb l else if kind=3 then Dl l else []
noncomputable def bk1 (l:List DVal):Int:=if(EZ 1 l).length<(EZ 0 l).length then 1 else 0
noncomputable def bk2 (l:List DVal):Int:=if(EZ 2 l).length<(EZ (bk1 l) l).length then 2 else bk1 l
noncomputable def bk3 (l:List DVal):Int:=if typeOf l=1∧(EZ 3 l).length<(EZ (bk2 l) l).length then 3 else bk2 l
noncomputable def BC (l:List DVal):Int:=if typeOf l=0 then -1 else bk3 l
noncomputable def A8 (l:List DVal):List Int:=if BC l<0 then [] else BC l::EZ (BC l) l
noncomputable def XC (b:List Int) (ty k:Int):Option (List DVal):=match b with
 | []=>none
 | c::r=>if c=0 then Gf r ty k else if c=1 then Ea r ty k else if c=2 then F5 r ty k else if c=3 then Eo r k else none
noncomputable def uh (b:List Int) (ty k:Int):Option (List DVal):=match b with
 | []=>none
 | c::r=>if c=0 then O5 r ty k else if c=1 then Ea r ty k else if c=2 then Jz r ty k else if c=3 then Iz r k else none
noncomputable def I9 (b:List Int) (ty k:Int):Option (List DVal):=if 1≤ty∧ty≤2 then match XC b ty k with
  | none=>none
  | some l=>if typeOf l=ty∧A8 l=b then some l else none
 else none
noncomputable def Yy (b:List Int) (ty k:Int):Option (List DVal):=if b = [] then none else
 if typeOf ((uh b ty k).getD [])=ty then again b k ((uh b ty k).getD []) (A8 ((uh b ty k).getD [])) else none
theorem AAZ {b:List Int} (hb:Ae b) (ty k:Int):uh b ty k=XC b ty k:=by
 cases b with
 | nil=>rfl
 | cons c r =>
  have hr:Ae r:=fun x hx=>hb x APc
  simp only[uh,XC,YB hr,fP hr,YC]
theorem yS {b:List Int} (hb:Ae b) {ty k:Int} {l:List DVal} (h:Ea b ty k=some l):(1≤k∧k≤64∧(l.length:Int)=k)∧typeOf l≠0:=by
 unfold Ea at h
 cases hn:Bf b 0 with
 | none=>simp[hn] at h
 | some x =>
  obtain⟨n,p⟩:=x
  obtain⟨_,_,hne⟩:=Vr hb hn
  simp only[hn] at h
  split at h
  ·split at h
   ·cases h
   ·obtain⟨h1,h2,h3,h4,h5⟩:=AB5 h
    rw[h1]
    refine⟨⟨h2,h3,h4⟩,fun h0=>hne ?_⟩
    rw[h5,FX,bF h0]
  ·cases h
theorem yT {b:List Int} (hb:Ae b) {ty k:Int} {l:List DVal} (h:F5 b ty k=some l):(1≤k∧k≤64∧(l.length:Int)=k)∧typeOf l≠0:=by
 unfold F5 at h
 cases hn:Bf b 0 with
 | none=>simp[hn] at h
 | some x =>
  obtain⟨n,p⟩:=x
  obtain⟨_,_,hne⟩:=Vr hb hn
  simp only[hn] at h
  split at h
  ·rename_i hk
   split at h
   ·cases h
   ·split at h
    ·cases h
    ·rename_i o hu
     split at h
     ·cases h
     ·rename_i l' hp
      split at h
      ·rename_i he
       simp only[ak] at h
       subst h
       have h1:=Na hu
       have h2:=Nb hp
       refine⟨⟨hk.1.1,hk.1.2,AOQ⟩,fun h0=>hne ?_⟩
       rw[← he,Eb,bF h0]
      ·cases h
  ·cases h
theorem ui {b:List Int} (hb:Ae b) {k:Int} {l:List DVal} (h:Eo b k=some l):(1≤k∧k≤64∧(l.length:Int)=k)∧typeOf l≠0:=by
 unfold Eo at h
 cases hn:Bf b 0 with
 | none=>simp[hn] at h
 | some x =>
  obtain⟨n,p⟩:=x
  obtain⟨_,_,hne⟩:=Vr hb hn
  simp only[hn] at h
  split at h
  ·cases h
  ·split at h
   ·rename_i hk
    split at h
    ·cases h
    ·rename_i o hu
     split at h
     ·cases h
     ·rename_i l' hp
      split at h
      ·rename_i he
       simp only[ak] at h
       subst h
       have h1:=Na hu
       have h2:=P7 hp
       refine⟨⟨hk.1,hk.2,AOQ⟩,fun h0=>hne ?_⟩
       rw[← he,Dl,bF AOQ]
      ·cases h
   ·cases h
theorem uj {b:List Int} (hb:Ae b) {ty k:Int} {l:List DVal} (h:Gf b ty k=some l):typeOf l≠0:=by
 unfold Gf at h
 split at h
 ·rename_i hk
  cases hv:CS b ty k.toNat 0 with
  | none=>simp[hv] at h
  | some x =>
   obtain⟨l',q⟩:=x
   simp only[hv] at h
   split at h
   ·simp only[ak] at h
    subst h
    obtain⟨_,_,c3,c4,_⟩:=JS hb k.toNat 0 _ q (aA _) hv
    have h0:0<l'.length:=AOQ
    have hty:=(c4 _ (ax h0)).2.2
    rw[TB (ty:=ty) AOQ AOQ fun v hv=>⟨(c4 v hv).1,(c4 v hv).2.1⟩]
    omega
   ·cases h
 ·cases h
theorem K_ {b:List Int} (hb:Ae b) {ty k:Int} {l:List DVal} (h:XC b ty k=some l):(1≤k∧k≤64∧(l.length:Int)=k)∧typeOf l≠0:=by
 cases b with
 | nil=>cases h
 | cons c r =>
  have hr:Ae r:=fun x hx=>hb x APc
  simp only[XC] at h
  split at h
  ·exact⟨vJ hr h,uj hr h⟩
  ·split at h
   ·exact yS hr h
   ·split at h
    ·exact yT hr h
    ·split at h
     ·exact ui hr h
     ·cases h
theorem ABw {b:List Int} (hb:Ae b) (ty k:Int):Yy b ty k=I9 b ty k:=by
 unfold Yy I9
 rw[AAZ hb]
 by_cases h0:b = []
 ·rw[bF h0,h0]
  simp[XC]
 ·rw[bz h0]
  cases hd:XC b ty k with
  | none =>
   simp only[wF]
   have ht:typeOf []=0:=rfl
   rw[ht]
   unfold again
   by_cases h1:(0:Int)=ty
   ·rw[bF h1,bz (by simp only[aW]; omega)]
    split<;>rfl
   ·rw[bz h1]
    split<;>rfl
  | some l =>
   obtain⟨⟨k1,k2,k3⟩,k4⟩:=K_ hb hd
   simp only[aH]
   by_cases h1:typeOf l=ty
   ·rw[bF h1,bF (by have:=AEE l; omega)]
    unfold again
    by_cases h2:A8 l=b
    ·rw[bF ⟨k1,k2,k3,h2.symm⟩,bF ⟨h1,h2⟩]
    ·rw[bz fun h3=>h2 h3.2.2.2.symm,bz fun h3=>h2 h3.2]
   ·rw[bz h1]
    split
    ·rw[bz fun h3=>h1 h3.1]
    ·rfl
theorem XD {b:List Int} (hb:Ae b) {ty k:Int} {l:List DVal} (h:I9 b ty k=some l):(l.length:Int)=k∧typeOf l=ty∧A8 l=b:=by
 unfold I9 at h
 split at h
 ·cases hd:XC b ty k with
  | none=>simp[hd] at h
  | some l' =>
   simp only[hd] at h
   split at h
   ·rename_i he
    simp only[ak] at h
    subst h
    exact⟨(K_ hb hd).1.2.2,he⟩
   ·cases h
 ·cases h
def IR (b:List Int):Nat→Nat→Option (List Int×Nat)
 | 0,p=>some ([],p)
 | k+1,p=>match Bf b p with
  | none=>none
  | some (n,q)=>(IR b k q).map fun x=>(n::x.1,x.2)
def FW (b:List Int) (p:Int):Option (List Int×Nat):=match Bf b p with
 | none=>none
 | some (k,q)=>if 0≤k∧k≤64 then IR b k.toNat q else none
def QJ (l:List Int):List Int:=FO l.length++(l.map FO).flatten
theorem dW {b:List Int} (hb:Ae b):∀ (k p:Nat) (l:List Int) (q:Nat),p≤b.length→IR b k p=some (l,q) →
  p≤q∧q≤b.length∧l.length=k∧(b.drop p).take (q-p)=(l.map FO).flatten
 | 0,p,l,q,hp,h=>by
  simp only[IR,ak,bK] at h
  obtain⟨rfl,rfl⟩:=h
  exact⟨aT _,hp,rfl,AOR⟩
 | k+1,p,l,q,hp,h=>by
  rw[IR] at h
  cases hv:Bf b p with
  | none=>simp[hv] at h
  | some x =>
   obtain⟨v,m⟩:=x
   simp only[hv] at h
   cases hr:IR b k m with
   | none=>simp[hr] at h
   | some y =>
    obtain⟨l',q'⟩:=y
    simp only[hr,bY,ak,bK] at h
    obtain⟨rfl,rfl⟩:=h
    obtain⟨_,a2,a3,_,_,a6⟩:=II hb hv
    obtain⟨c1,c2,c3,c5⟩:=dW hb k m l' q' a3 hr
    refine⟨AOQ,c2,by simp[c3], ?_⟩
    rw[S_ b (p:=p) (q:=m) (r:=q') AOQ c1,c5]
    have:(b.drop p).take (m-p)=FO v:=by simpa using a6
    rw[this]; rfl
theorem UM {b:List Int} (hb:Ae b) {l:List Int} {q:Nat} (h:FW b 0=some (l,q)):q≤b.length∧l.length≤64∧b.take q=QJ l:=by
 unfold FW at h
 cases hn:Bf b 0 with
 | none=>simp[hn] at h
 | some x =>
  obtain⟨k,p⟩:=x
  simp only[hn] at h
  split at h
  ·rename_i hk
   obtain⟨_,a2,a3,_,_,a6⟩:=II hb hn
   obtain⟨c1,c2,c3,c5⟩:=dW hb k.toNat p l q a3 h
   refine⟨c2,AOQ, ?_⟩
   have e1:=S_ b (p:=0) (q:=p) (r:=q) (aA _) c1
   simp only[aba,abd] at e1
   have e2:b.take p=FO k:=by simpa using a6
   rw[e1,c5,e2,QJ,c3]
   congr 2
   omega
  ·cases h
noncomputable def iZ (l:List DVal):List Int:=FO (A8 l).length++A8 l
noncomputable def Gx (b:List Int) (n:Nat):List Int→Nat→Option (List (List DVal)×Nat)
 | [],p=>some ([],p)
 | ty::r,p=>match Bf b p with
  | none=>none
  | some (m,q)=>if 0≤m∧m≤(b.length:Int)-q then match I9 ((b.drop q).take m.toNat) ty n with
    | none=>none
    | some l=>(Gx b n r (q+m.toNat)).map fun x=>(l::x.1,x.2)
   else none
theorem dX {b:List Int} (hb:Ae b) (n:Nat):∀ (cols:List Int) (p:Nat) (cs:List (List DVal)) (q:Nat),p≤b.length→Gx b n cols p=some (cs,q) →
  p≤q∧q≤b.length∧cs.length=cols.length∧(∀ c∈cs,c.length=n)∧(b.drop p).take (q-p)=(cs.map iZ).flatten
 | [],p,cs,q,hp,h=>by
  simp only[Gx,ak,bK] at h
  obtain⟨rfl,rfl⟩:=h
  exact⟨aT _,hp,rfl,AOR,AOR⟩
 | ty::r,p,cs,q,hp,h=>by
  rw[Gx] at h
  cases hv:Bf b p with
  | none=>simp[hv] at h
  | some x =>
   obtain⟨m,q1⟩:=x
   simp only[hv] at h
   split at h
   ·rename_i hm
    cases hd:I9 ((b.drop q1).take m.toNat) ty n with
    | none=>simp[hd] at h
    | some l =>
     simp only[hd] at h
     cases hr:Gx b n r (q1+m.toNat) with
     | none=>simp[hr] at h
     | some y =>
      obtain⟨cs',q'⟩:=y
      simp only[hr,bY,ak,bK] at h
      obtain⟨rfl,rfl⟩:=h
      obtain⟨_,a2,a3,_,_,a6⟩:=II hb hv
      obtain⟨d1,_,d3⟩:=XD (TA hb _ _) hd
      obtain⟨c1,c2,c3,c4,c5⟩:=dX hb n r (q1+m.toNat) cs' q' AOQ hr
      refine⟨AOQ,c2,by simp[c3],fun c hc=>?_, ?_⟩
      ·rcases SK.1 hc with rfl | hc
       ·omega
       ·exact c4 c hc
      ·rw[S_ b (p:=p) (q:=q1) (r:=q') AOQ AOQ,S_ b (p:=q1) (q:=q1+m.toNat) (r:=q') AOQ c1,c5]
       have e1:(b.drop p).take (q1-p)=FO m:=by simpa using a6
       have e2:q1+m.toNat-q1=m.toNat:=AOQ
       have e3:(A8 l).length=m.toNat:=by rw[d3]; simp; omega
       rw[e1,e2,← d3]
       simp only[YR,df,iZ,e3,bT]
       congr 2
       omega
   ·cases h
def rowsOf (ids:List Int) (cs:List (List DVal)):List DRow:=(List.range ids.length).map fun i=>⟨(ids[i]?).getD 0,cs.map fun c=>(c[i]?).getD zeroW⟩
where zeroW:DVal:=⟨0,0,ByteArray.empty⟩
theorem yU (ids:List Int) (cs:List (List DVal)):(rowsOf ids cs).map DRow.id=ids:=by
 unfold rowsOf
 rw[List.map_map]
 exact AMy
theorem Dy (ids:List Int) (cs:List (List DVal)):(rowsOf ids cs).length=ids.length:=by simp[rowsOf]
theorem filterMap_map {α β:Type} {f:α→Option β} {g:α→β}:∀ (l:List α),(∀ x∈l,f x=some (g x))→l.filterMap f=l.map g
 | [],_=>rfl
 | x::l,h=>by
  rw[List.filterMap_cons,h x AOR,YR,filterMap_map l fun y hy=>h y APi]
theorem ABx (l:List DVal) (z:DVal):(List.range l.length).map (fun i=>(l[i]?).getD z)=l:=by
 exact AMy
theorem yV {ids:List Int} {cs:List (List DVal)} (h:∀ c∈cs,c.length=ids.length) {k:Nat} (hk:k<cs.length):L9 (rowsOf ids cs) k=cs[k]:=by
 have hl:=h _ (ax hk)
 unfold L9 rowsOf
 rw[List.filterMap_map,filterMap_map (g:=fun i=>((cs[k])[i]?).getD rowsOf.zeroW),← hl]
 ·exact ABx _ _
 ·intro i hi
  have hi':i<(cs[k]).length:=by rw[hl]; simpa using hi
  simp[hk,hi']
noncomputable def Du (cols:List Int) (l:List DRow):Bool:=(FT cols&&decide (l.length≤12))&&(TY cols l&&decide (∀ r∈l,r.id≤1000000000))
noncomputable def Dj (cols:List Int) (l:List DRow):List Int:=
 if Du cols l=true then QJ (l.map DRow.id)++(if l = [] then [] else((List.range cols.length).map fun(k:Nat)=>iZ (L9 l (k:Int))).flatten) else []
noncomputable def GH (b:List Int) (cols ids:List Int) (p:Nat):Option (List (List DVal)×Nat):=if ids = [] then some ([],p) else Gx b ids.length cols p
noncomputable def DJ (cols b:List Int):Option (List DRow):=match FW b 0 with
 | none=>none
 | some (ids,p)=>if FT cols=true∧ids.length≤12 then match GH b cols ids p with
   | none=>none
   | some (cs,q)=>if q=b.length∧Du cols (rowsOf ids cs)=true then some (rowsOf ids cs) else none
  else none
noncomputable def Jd (cols b:List Int):Option (List DRow):=match FW b 0 with
 | none=>none
 | some (ids,p)=>if FT cols=true then match GH b cols ids p with
   | none=>none
   | some (cs,_)=>if Du cols (rowsOf ids cs)=true∧Dj cols (rowsOf ids cs)=b then some (rowsOf ids cs) else none
  else none
theorem yX {b:List Int} {q:Nat} (h:q≤b.length):b.take q=b↔q=b.length:=by
 constructor
 ·intro e
  have:=congrArg List.length e
  simp only[bI] at this
  omega
 ·rintro rfl
  exact bM
theorem uk {b:List Int} (hb:Ae b) (cols:List Int):Jd cols b=DJ cols b:=by
 unfold Jd DJ
 cases hn:FW b 0 with
 | none=>rfl
 | some x =>
  obtain⟨ids,p⟩:=x
  obtain⟨n1,n2,n3⟩:=UM hb hn
  dsimp only
  by_cases hc:FT cols=true
  ·rw[bF hc]
   cases hg:GH b cols ids p with
   | none=>dsimp only; split<;>rfl
   | some y =>
    obtain⟨cs,q⟩:=y
    dsimp only
    by_cases h12:ids.length≤12
    ·have key:Du cols (rowsOf ids cs)=true→(Dj cols (rowsOf ids cs)=b↔q=b.length):=by
      intro hok
      have hput:Dj cols (rowsOf ids cs)=b.take q∧q≤b.length:=by
       unfold Dj
       rw[bF hok,yU,← n3]
       unfold GH at hg
       by_cases hi:ids = []
       ·rw[bF hi] at hg
        simp only[ak,bK] at hg
        obtain⟨rfl,rfl⟩:=hg
        rw[bF (by apply aam; rw[Dy,hi]; rfl)]
        exact⟨AOR,n1⟩
       ·rw[bz hi] at hg
        obtain⟨c1,c2,c3,c4,c5⟩:=dX hb ids.length cols p cs q n1 hg
        rw[bz (by intro h0; have:=Dy ids cs; rw[h0] at this; exact hi (aam this.symm))]
        have e1:=S_ b (p:=0) (q:=p) (r:=q) (aA _) c1
        simp only[aba,abd] at e1
        refine⟨?_,c2⟩
        rw[e1,c5]
        congr 2
        apply abE
        ·simp[c3]
        ·intro k h1 h2
         have hk:k<cs.length:=APG
         simp only[List.getElem_map,List.getElem_range]
         rw[yV c4 hk]
      rw[hput.1]
      exact yX hput.2
     by_cases hok:Du cols (rowsOf ids cs)=true
     ·simp only[hok,key hok,hc,h12,true_and,xU,and_self,bf]
     ·simp only[hok,hc,h12,false_and,and_false,and_self,bf,aX,aB]
    ·have hok:¬ Du cols (rowsOf ids cs)=true:=by
      intro h
      simp only[Du,ay,aZ,Dy] at h
      exact h12 h.1.2
     simp only[hok,h12,false_and,and_false,aX,aB]
  ·rw[bz hc,bz fun h=>hc h.1]
theorem GY (out:List Int) (c:Int):(out ++ [c]).map intC=out.map intC ++ [[.v (.int .i64 c)]]:=by simp[zH]
theorem AHj:BJ []=true:=rfl
theorem XE (n:Int):C_ (intC n)=true:=rfl
def Ya:Option (List Int×Nat)→List Res
 | some (l,q)=>[.own 3 1 (l.map intC) true,.val (.c (.v (.int .i64 ((q:Int))))),.val (.c (.v (.bool (true))))]
 | none=>[.own 3 1 [] true,.val (.c (.v (.int .i64 (0)))),.val (.c (.v (.bool (false))))]
theorem ig (b:List Int) (p:Int) (hb:Ae b) (hl:b.length≤1048576):Ctr prog 356 [.c (.sl (b.map byteC)),.c (.v (.int .i64 (p)))] (Ya (FW b p)):=by
 refine CM call356 func356 ntmps356 results356 fun hw=>?_
 simp only[go_sem,ae]
 have hg:=GV b p hb hl
 rcases h1:Bf b p with _ | ⟨k,q⟩<;>rw[h1] at hg<;>simp only[Ve] at hg
 ·refine AAM _ hg fun _=>?_
  simp only[go_sem,FW,h1,Ya]
  try simp[BJ]
 refine AAM _ hg fun _=>?_
 simp only[go_sem]
 refine AAM _ (AL _ _ _) fun _=>?_
 rcases h2:Ad k 0 64 with _ | _
 ·exact ANI
 have hk:0≤k∧k≤64:=AOa
 obtain⟨K,rfl⟩:=aQ hk.1
 have hall:FW b p=IR b K q:=by simp only[FW,h1,bF hk,bW]
 simp only[go_sem,h2]
 refine ABZ [28] (A:=Nat×Nat×List Int) (fun x=>[(10,.c (.v (.int .i64 (x.1)))),(9,.c (.ref 0)),(1,.c (.v (.int .i64 ((x.2.1:Int)))))]) (fun x=>[⟨3,1,x.2.2.map intC,true,true⟩]) (fun x=>x.1≤K∧x.2.2.length=x.1∧(IR b (K-x.1) x.2.1).map (fun y=>(x.2.2++y.1,y.2))=FW b p) (fun x=>K-x.1) (0,q,[]) (ABJ [(0,false)] ⟨rfl,rfl,rfl,trivial⟩ rfl) ⟨aA _,rfl,by rw[hall]; simp⟩ ?_
 rintro⟨i,q',l⟩ ⟨hi,hll,hb2⟩
 dsimp only at hi hll hb2
 refine AOK (fun h=>?_) fun h=>?_
 ·have hi':i<K:=by simp at h; omega
  rw[show K-i=(K-(i+1))+1 from AOQ,IR] at hb2
  have hg2:=GV b q' hb hl
  exact AI1
 ·have hi':i=K:=by simp at h; omega
  subst hi'
  rw[jV,IR] at hb2
  simp only[bY,bQ] at hb2
  rw[← hb2]
  simp only[go_sem,Ya,AX]
  try exact AII
theorem ik (b:List Int) (p:Int) (hb:Ae b) (hl:b.length≤1048576):Ctr prog 346 [.c (.sl (b.map byteC)),.c (.v (.int .i64 (p)))] (Ya (FW b p)):=by
 refine CM call346 func346 ntmps346 results346 fun hw=>?_
 simp only[go_sem,ae]
 have hg:=GU b p hb hl
 rcases h1:Bf b p with _ | ⟨k,q⟩<;>rw[h1] at hg<;>simp only[Ve] at hg
 ·refine AAM _ hg fun _=>?_
  simp only[go_sem,FW,h1,Ya]
  try simp[BJ]
 refine AAM _ hg fun _=>?_
 simp only[go_sem]
 refine AAM _ (AO _ _ _) fun _=>?_
 rcases h2:Ad k 0 64 with _ | _
 ·exact ANI
 have hk:0≤k∧k≤64:=AOa
 obtain⟨K,rfl⟩:=aQ hk.1
 have hall:FW b p=IR b K q:=by simp only[FW,h1,bF hk,bW]
 simp only[go_sem,h2]
 refine ABZ [30] (A:=Nat×Nat×List Int) (fun x=>[(11,.c (.v (.int .i64 (x.1)))),(10,.c (.ref 0)),(8,.c (.v (.int .i64 ((x.2.1:Int)))))]) (fun x=>[⟨3,1,x.2.2.map intC,true,true⟩]) (fun x=>x.1≤K∧x.2.2.length=x.1∧(IR b (K-x.1) x.2.1).map (fun y=>(x.2.2++y.1,y.2))=FW b p) (fun x=>K-x.1) (0,q,[]) (ABJ [(0,false)] ⟨rfl,rfl,rfl,trivial⟩ rfl) ⟨aA _,rfl,by rw[hall]; simp⟩ ?_
 rintro⟨i,q',l⟩ ⟨hi,hll,hb2⟩
 dsimp only at hi hll hb2
 refine AOK (fun h=>?_) fun h=>?_
 ·have hi':i<K:=by simp at h; omega
  rw[show K-i=(K-(i+1))+1 from AOQ,IR] at hb2
  have hg2:=GU b q' hb hl
  exact AI1
 ·have hi':i=K:=by simp at h; omega
  subst hi'
  rw[jV,IR] at hb2
  simp only[bY,bQ] at hb2
  rw[← hb2]
  simp only[go_sem,Ya,AX]
  try exact AII
end Go.Proofs.YtnoldekcdlaahaaGreat
