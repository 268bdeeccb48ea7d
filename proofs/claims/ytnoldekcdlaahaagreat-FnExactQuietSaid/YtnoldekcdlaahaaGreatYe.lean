/- A part. -/
import Derived.Test.YtnoldekcdlaahaaGreatYt
import Derived.Test.YtnoldekcdlaahaaGreatZc
import Derived.Test.YtnoldekcdlaahaaGreatYc
set_option linter.unusedSimpArgs false
set_option linter.unusedVariables false
set_option maxHeartbeats 2000000
set_option maxRecDepth 10000
open Go.Proofs.Tryz
namespace Go.Proofs.YtnoldekcdlaahaaGreat
open Go.Vm
noncomputable def EX (kind:Int) (l:List DVal):List Int:=if kind=0 then Ef l else if kind=1 then FU l else if kind=2 then EZ l else if kind=3 then Dh l else []
noncomputable def bk1 (l:List DVal):Int:=if(EX 1 l).length<(EX 0 l).length then 1 else 0
noncomputable def bk2 (l:List DVal):Int:=if(EX 2 l).length<(EX (bk1 l) l).length then 2 else bk1 l
noncomputable def bk3 (l:List DVal):Int:=if typeOf l=1∧(EX 3 l).length<(EX (bk2 l) l).length then 3 else bk2 l
noncomputable def BA (l:List DVal):Int:=if typeOf l=0 then -1 else bk3 l
noncomputable def Aw (l:List DVal):List Int:=if BA l<0 then [] else BA l::EX (BA l) l
noncomputable def XX (b:List Int) (ty k:Int):Option (List DVal):=match b with
 | []=>none
 | c::r=>if c=0 then GY r ty k else if c=1 then EY r ty k else if c=2 then Fq r ty k else if c=3 then Eh r k else none
noncomputable def v_ (b:List Int) (ty k:Int):Option (List DVal):=match b with
 | []=>none
 | c::r=>if c=0 then PQ r ty k else if c=1 then EY r ty k else if c=2 then J_ r ty k else if c=3 then I4 r k else none
noncomputable def I_ (b:List Int) (ty k:Int):Option (List DVal):=if 1≤ty∧ty≤2 then match XX b ty k with
  | none=>none
  | some l=>if typeOf l=ty∧Aw l=b then some l else none
 else none
noncomputable def ZT (b:List Int) (ty k:Int):Option (List DVal):=if b = [] then none else
 if typeOf ((v_ b ty k).getD [])=ty then again b k ((v_ b ty k).getD []) (Aw ((v_ b ty k).getD [])) else none
theorem ABF {b:List Int} (hb:Ad b) (ty k:Int):v_ b ty k=XX b ty k:=by
 cases b with
 | nil=>rfl
 | cons c r =>
  have hr:Ad r:=fun x hx=>hb x APe
  simp only[v_,XX,Ye hr,iG hr,Yf]
theorem zg {b:List Int} (hb:Ad b) {ty k:Int} {l:List DVal} (h:EY b ty k=some l):(1≤k∧k≤64∧(l.length:Int)=k)∧typeOf l≠0:=by
 unfold EY at h
 cases hn:BX b 0 with
 | none=>simp[hn] at h
 | some x =>
  obtain⟨n,p⟩:=x
  obtain⟨_,_,hne⟩:=WE hb hn
  simp only[hn] at h
  split at h
  ·split at h
   ·cases h
   ·obtain⟨h1,h2,h3,h4,h5⟩:=ACg h
    rw[h1]
    refine⟨⟨h2,h3,h4⟩,fun h0=>hne ?_⟩
    rw[h5,FU,bu h0]
  ·cases h
theorem zh {b:List Int} (hb:Ad b) {ty k:Int} {l:List DVal} (h:Fq b ty k=some l):(1≤k∧k≤64∧(l.length:Int)=k)∧typeOf l≠0:=by
 unfold Fq at h
 cases hn:BX b 0 with
 | none=>simp[hn] at h
 | some x =>
  obtain⟨n,p⟩:=x
  obtain⟨_,_,hne⟩:=WE hb hn
  simp only[hn] at h
  split at h
  ·rename_i hk
   split at h
   ·cases h
   ·split at h
    ·cases h
    ·rename_i o hu
     split at h
     ·cases h
     ·rename_i l' hp
      split at h
      ·rename_i he
       simp only[ak] at h
       subst h
       have h1:=Nu hu
       have h2:=Nv hp
       refine⟨⟨hk.1.1,hk.1.2,AOh⟩,fun h0=>hne ?_⟩
       rw[← he,EZ,bu h0]
      ·cases h
  ·cases h
theorem wB {b:List Int} (hb:Ad b) {k:Int} {l:List DVal} (h:Eh b k=some l):(1≤k∧k≤64∧(l.length:Int)=k)∧typeOf l≠0:=by
 unfold Eh at h
 cases hn:BX b 0 with
 | none=>simp[hn] at h
 | some x =>
  obtain⟨n,p⟩:=x
  obtain⟨_,_,hne⟩:=WE hb hn
  simp only[hn] at h
  split at h
  ·cases h
  ·split at h
   ·rename_i hk
    split at h
    ·cases h
    ·rename_i o hu
     split at h
     ·cases h
     ·rename_i l' hp
      split at h
      ·rename_i he
       simp only[ak] at h
       subst h
       have h1:=Nu hu
       have h2:=QN hp
       refine⟨⟨hk.1,hk.2,AOh⟩,fun h0=>hne ?_⟩
       rw[← he,Dh,bu AOh]
      ·cases h
   ·cases h
theorem wC {b:List Int} (hb:Ad b) {ty k:Int} {l:List DVal} (h:GY b ty k=some l):typeOf l≠0:=by
 unfold GY at h
 split at h
 ·rename_i hk
  cases hv:Bz b ty k.toNat 0 with
  | none=>simp[hv] at h
  | some x =>
   obtain⟨l',q⟩:=x
   simp only[hv] at h
   split at h
   ·simp only[ak] at h
    subst h
    obtain⟨_,_,c3,c4,_⟩:=JX hb k.toNat 0 _ q (az _) hv
    have h0:0<l'.length:=AOh
    have hty:=(c4 _ (ax h0)).2.2
    rw[TL (ty:=ty) AOh AOh fun v hv=>⟨(c4 v hv).1,(c4 v hv).2.1⟩]
    omega
   ·cases h
 ·cases h
theorem LJ {b:List Int} (hb:Ad b) {ty k:Int} {l:List DVal} (h:XX b ty k=some l):(1≤k∧k≤64∧(l.length:Int)=k)∧typeOf l≠0:=by
 cases b with
 | nil=>cases h
 | cons c r =>
  have hr:Ad r:=fun x hx=>hb x APe
  simp only[XX] at h
  split at h
  ·exact⟨wZ hr h,wC hr h⟩
  ·split at h
   ·exact zg hr h
   ·split at h
    ·exact zh hr h
    ·split at h
     ·exact wB hr h
     ·cases h
theorem ACX {b:List Int} (hb:Ad b) (ty k:Int):ZT b ty k=I_ b ty k:=by
 unfold ZT I_
 rw[ABF hb]
 by_cases h0:b = []
 ·rw[bu h0,h0]
  simp[XX]
 ·rw[aZ h0]
  cases hd:XX b ty k with
  | none =>
   simp only[xY]
   have ht:typeOf []=0:=rfl
   rw[ht]
   unfold again
   by_cases h1:(0:Int)=ty
   ·rw[bu h1,aZ (by simp only[y7]; omega)]
    split<;>rfl
   ·rw[aZ h1]
    split<;>rfl
  | some l =>
   obtain⟨⟨k1,k2,k3⟩,k4⟩:=LJ hb hd
   simp only[aI]
   by_cases h1:typeOf l=ty
   ·rw[bu h1,bu (by have:=AEl l; omega)]
    unfold again
    by_cases h2:Aw l=b
    ·rw[bu ⟨k1,k2,k3,h2.symm⟩,bu ⟨h1,h2⟩]
    ·rw[aZ fun h3=>h2 h3.2.2.2.symm,aZ fun h3=>h2 h3.2]
   ·rw[aZ h1]
    split
    ·rw[aZ fun h3=>h1 h3.1]
    ·rfl
theorem XY {b:List Int} (hb:Ad b) {ty k:Int} {l:List DVal} (h:I_ b ty k=some l):(l.length:Int)=k∧typeOf l=ty∧Aw l=b:=by
 unfold I_ at h
 split at h
 ·cases hd:XX b ty k with
  | none=>simp[hd] at h
  | some l' =>
   simp only[hd] at h
   split at h
   ·rename_i he
    simp only[ak] at h
    subst h
    exact⟨(LJ hb hd).1.2.2,he⟩
   ·cases h
 ·cases h
def IM (b:List Int):Nat→Nat→Option (List Int×Nat)
 | 0,p=>some ([],p)
 | k+1,p=>match BX b p with
  | none=>none
  | some (n,q)=>(IM b k q).map fun x=>(n::x.1,x.2)
def FT (b:List Int) (p:Int):Option (List Int×Nat):=match BX b p with
 | none=>none
 | some (k,q)=>if 0≤k∧k≤64 then IM b k.toNat q else none
def Qe (l:List Int):List Int:=FH l.length++(l.map FH).flatten
theorem gB {b:List Int} (hb:Ad b):∀ (k p:Nat) (l:List Int) (q:Nat),p≤b.length→IM b k p=some (l,q) →
  p≤q∧q≤b.length∧l.length=k∧(b.drop p).take (q-p)=(l.map FH).flatten
 | 0,p,l,q,hp,h=>by
  simp only[IM,ak,bK] at h
  obtain⟨rfl,rfl⟩:=h
  exact⟨aT _,hp,rfl,AOi⟩
 | k+1,p,l,q,hp,h=>by
  rw[IM] at h
  cases hv:BX b p with
  | none=>simp[hv] at h
  | some x =>
   obtain⟨v,m⟩:=x
   simp only[hv] at h
   cases hr:IM b k m with
   | none=>simp[hr] at h
   | some y =>
    obtain⟨l',q'⟩:=y
    simp only[hr,bW,ak,bK] at h
    obtain⟨rfl,rfl⟩:=h
    obtain⟨_,a2,a3,_,_,a6⟩:=IA hb hv
    obtain⟨c1,c2,c3,c5⟩:=gB hb k m l' q' a3 hr
    refine⟨AOh,c2,by simp[c3], ?_⟩
    rw[TJ b (p:=p) (q:=m) (r:=q') AOh c1,c5]
    have:(b.drop p).take (m-p)=FH v:=by simpa using a6
    rw[this]; rfl
theorem UZ {b:List Int} (hb:Ad b) {l:List Int} {q:Nat} (h:FT b 0=some (l,q)):q≤b.length∧l.length≤64∧b.take q=Qe l:=by
 unfold FT at h
 cases hn:BX b 0 with
 | none=>simp[hn] at h
 | some x =>
  obtain⟨k,p⟩:=x
  simp only[hn] at h
  split at h
  ·rename_i hk
   obtain⟨_,a2,a3,_,_,a6⟩:=IA hb hn
   obtain⟨c1,c2,c3,c5⟩:=gB hb k.toNat p l q a3 h
   refine⟨c2,AOh, ?_⟩
   have e1:=TJ b (p:=0) (q:=p) (r:=q) (az _) c1
   simp only[aa5,aa8] at e1
   have e2:b.take p=FH k:=by simpa using a6
   rw[e1,c5,e2,Qe,c3]
   congr 2
   omega
  ·cases h
noncomputable def jS (l:List DVal):List Int:=FH (Aw l).length++Aw l
noncomputable def Gq (b:List Int) (n:Nat):List Int→Nat→Option (List (List DVal)×Nat)
 | [],p=>some ([],p)
 | ty::r,p=>match BX b p with
  | none=>none
  | some (m,q)=>if 0≤m∧m≤(b.length:Int)-q then match I_ ((b.drop q).take m.toNat) ty n with
    | none=>none
    | some l=>(Gq b n r (q+m.toNat)).map fun x=>(l::x.1,x.2)
   else none
theorem gG {b:List Int} (hb:Ad b) (n:Nat):∀ (cols:List Int) (p:Nat) (cs:List (List DVal)) (q:Nat),p≤b.length→Gq b n cols p=some (cs,q) →
  p≤q∧q≤b.length∧cs.length=cols.length∧(∀ c∈cs,c.length=n)∧(b.drop p).take (q-p)=(cs.map jS).flatten
 | [],p,cs,q,hp,h=>by
  simp only[Gq,ak,bK] at h
  obtain⟨rfl,rfl⟩:=h
  exact⟨aT _,hp,rfl,AOi,AOi⟩
 | ty::r,p,cs,q,hp,h=>by
  rw[Gq] at h
  cases hv:BX b p with
  | none=>simp[hv] at h
  | some x =>
   obtain⟨m,q1⟩:=x
   simp only[hv] at h
   split at h
   ·rename_i hm
    cases hd:I_ ((b.drop q1).take m.toNat) ty n with
    | none=>simp[hd] at h
    | some l =>
     simp only[hd] at h
     cases hr:Gq b n r (q1+m.toNat) with
     | none=>simp[hr] at h
     | some y =>
      obtain⟨cs',q'⟩:=y
      simp only[hr,bW,ak,bK] at h
      obtain⟨rfl,rfl⟩:=h
      obtain⟨_,a2,a3,_,_,a6⟩:=IA hb hv
      obtain⟨d1,_,d3⟩:=XY (TK hb _ _) hd
      obtain⟨c1,c2,c3,c4,c5⟩:=gG hb n r (q1+m.toNat) cs' q' AOh hr
      refine⟨AOh,c2,by simp[c3],fun c hc=>?_, ?_⟩
      ·rcases dh.1 hc with rfl | hc
       ·omega
       ·exact c4 c hc
      ·rw[TJ b (p:=p) (q:=q1) (r:=q') AOh AOh,TJ b (p:=q1) (q:=q1+m.toNat) (r:=q') AOh c1,c5]
       have e1:(b.drop p).take (q1-p)=FH m:=by simpa using a6
       have e2:q1+m.toNat-q1=m.toNat:=AOh
       have e3:(Aw l).length=m.toNat:=by rw[d3]; simp; omega
       rw[e1,e2,← d3]
       simp only[YG,dm,jS,e3,bM]
       congr 2
       omega
   ·cases h
def rowsOf (ids:List Int) (cs:List (List DVal)):List DRow:=(List.range ids.length).map fun i=>⟨(ids[i]?).getD 0,cs.map fun c=>(c[i]?).getD zeroW⟩
where zeroW:DVal:=⟨0,0,ByteArray.empty⟩
theorem zi (ids:List Int) (cs:List (List DVal)):(rowsOf ids cs).map DRow.id=ids:=by
 unfold rowsOf
 rw[List.map_map]
 exact AMs
theorem Dq (ids:List Int) (cs:List (List DVal)):(rowsOf ids cs).length=ids.length:=by simp[rowsOf]
theorem filterMap_map {α β:Type} {f:α→Option β} {g:α→β}:∀ (l:List α),(∀ x∈l,f x=some (g x))→l.filterMap f=l.map g
 | [],_=>rfl
 | x::l,h=>by
  rw[List.filterMap_cons,h x AOi,YG,filterMap_map l fun y hy=>h y AP1]
theorem ACY (l:List DVal) (z:DVal):(List.range l.length).map (fun i=>(l[i]?).getD z)=l:=by
 exact AMs
theorem zk {ids:List Int} {cs:List (List DVal)} (h:∀ c∈cs,c.length=ids.length) {k:Nat} (hk:k<cs.length):MI (rowsOf ids cs) k=cs[k]:=by
 have hl:=h _ (ax hk)
 unfold MI rowsOf
 rw[List.filterMap_map,filterMap_map (g:=fun i=>((cs[k])[i]?).getD rowsOf.zeroW),← hl]
 ·exact ACY _ _
 ·intro i hi
  have hi':i<(cs[k]).length:=by rw[hl]; simpa using hi
  simp[hk,hi']
noncomputable def Dl (cols:List Int) (l:List DRow):Bool:=(FN cols&&decide (l.length≤12))&&(UD cols l&&decide (∀ r∈l,r.id≤1000000000))
noncomputable def Dc (cols:List Int) (l:List DRow):List Int:=
 if Dl cols l=true then Qe (l.map DRow.id)++(if l = [] then [] else((List.range cols.length).map fun(k:Nat)=>jS (MI l (k:Int))).flatten) else []
noncomputable def F7 (b:List Int) (cols ids:List Int) (p:Nat):Option (List (List DVal)×Nat):=if ids = [] then some ([],p) else Gq b ids.length cols p
noncomputable def DK (cols b:List Int):Option (List DRow):=match FT b 0 with
 | none=>none
 | some (ids,p)=>if FN cols=true∧ids.length≤12 then match F7 b cols ids p with
   | none=>none
   | some (cs,q)=>if q=b.length∧Dl cols (rowsOf ids cs)=true then some (rowsOf ids cs) else none
  else none
noncomputable def Jh (cols b:List Int):Option (List DRow):=match FT b 0 with
 | none=>none
 | some (ids,p)=>if FN cols=true then match F7 b cols ids p with
   | none=>none
   | some (cs,_)=>if Dl cols (rowsOf ids cs)=true∧Dc cols (rowsOf ids cs)=b then some (rowsOf ids cs) else none
  else none
theorem zl {b:List Int} {q:Nat} (h:q≤b.length):b.take q=b↔q=b.length:=by
 constructor
 ·intro e
  have:=congrArg List.length e
  simp only[bz] at this
  omega
 ·rintro rfl
  exact bD
theorem wE {b:List Int} (hb:Ad b) (cols:List Int):Jh cols b=DK cols b:=by
 unfold Jh DK
 cases hn:FT b 0 with
 | none=>rfl
 | some x =>
  obtain⟨ids,p⟩:=x
  obtain⟨n1,n2,n3⟩:=UZ hb hn
  dsimp only
  by_cases hc:FN cols=true
  ·rw[bu hc]
   cases hg:F7 b cols ids p with
   | none=>dsimp only; split<;>rfl
   | some y =>
    obtain⟨cs,q⟩:=y
    dsimp only
    by_cases h12:ids.length≤12
    ·have key:Dl cols (rowsOf ids cs)=true→(Dc cols (rowsOf ids cs)=b↔q=b.length):=by
      intro hok
      have hput:Dc cols (rowsOf ids cs)=b.take q∧q≤b.length:=by
       unfold Dc
       rw[bu hok,zi,← n3]
       unfold F7 at hg
       by_cases hi:ids = []
       ·rw[bu hi] at hg
        simp only[ak,bK] at hg
        obtain⟨rfl,rfl⟩:=hg
        rw[bu (by apply aai; rw[Dq,hi]; rfl)]
        exact⟨AOi,n1⟩
       ·rw[aZ hi] at hg
        obtain⟨c1,c2,c3,c4,c5⟩:=gG hb ids.length cols p cs q n1 hg
        rw[aZ (by intro h0; have:=Dq ids cs; rw[h0] at this; exact hi (aai this.symm))]
        have e1:=TJ b (p:=0) (q:=p) (r:=q) (az _) c1
        simp only[aa5,aa8] at e1
        refine⟨?_,c2⟩
        rw[e1,c5]
        congr 2
        apply List.ext_getElem
        ·simp[c3]
        ·intro k h1 h2
         have hk:k<cs.length:=APP
         simp only[List.getElem_map,List.getElem_range]
         rw[zk c4 hk]
      rw[hput.1]
      exact zl hput.2
     by_cases hok:Dl cols (rowsOf ids cs)=true
     ·simp only[hok,key hok,hc,h12,true_and,abG,and_self,aX]
     ·simp only[hok,hc,h12,false_and,and_false,and_self,aX,aW,aC]
    ·have hok:¬ Dl cols (rowsOf ids cs)=true:=by
      intro h
      simp only[Dl,ay,bf,Dq] at h
      exact h12 h.1.2
     simp only[hok,h12,false_and,and_false,aW,aC]
  ·rw[aZ hc,aZ fun h=>hc h.1]
theorem GU (out:List Int) (c:Int):(out ++ [c]).map intC=out.map intC ++ [[.v (.int .i64 c)]]:=by simp[AAX]
theorem AH8:DI []=true:=rfl
theorem XZ (n:Int):DJ (intC n)=true:=rfl
def Y4:Option (List Int×Nat)→List Res
 | some (l,q)=>[.own 3 1 (l.map intC) true,.val (.c (.v (.int .i64 ((q:Int))))),.val (.c (.v (.bool (true))))]
 | none=>[.own 3 1 [] true,.val (.c (.v (.int .i64 (0)))),.val (.c (.v (.bool (false))))]
theorem jT (b:List Int) (p:Int) (hb:Ad b) (hl:b.length≤1048576):Ctr prog 356 [.c (.sl (b.map byteC)),.c (.v (.int .i64 (p)))] (Y4 (FT b p)):=by
 refine CM call356 func356 ntmps356 results356 fun hw=>?_
 simp only[go_sem,ae]
 have hg:=GN b p hb hl
 rcases h1:BX b p with _ | ⟨k,q⟩<;>rw[h1] at hg<;>simp only[Vw] at hg
 ·refine AAT _ hg fun _=>?_
  simp only[go_sem,FT,h1,Y4]
  try simp[DI]
 refine AAT _ hg fun _=>?_
 simp only[go_sem]
 refine AAT _ (AL _ _ _) fun _=>?_
 rcases h2:Aa k 0 64 with _ | _
 ·exact ANb
 have hk:0≤k∧k≤64:=AOr
 obtain⟨K,rfl⟩:=aO hk.1
 have hall:FT b p=IM b K q:=by simp only[FT,h1,bu hk,bH]
 simp only[go_sem,h2]
 refine AB6 [28] (A:=Nat×Nat×List Int) (fun x=>[(10,.c (.v (.int .i64 (x.1)))),(9,.c (.ref 0)),(1,.c (.v (.int .i64 ((x.2.1:Int)))))]) (fun x=>[⟨3,1,x.2.2.map intC,true,true⟩]) (fun x=>x.1≤K∧x.2.2.length=x.1∧(IM b (K-x.1) x.2.1).map (fun y=>(x.2.2++y.1,y.2))=FT b p) (fun x=>K-x.1) (0,q,[]) (AB3 [(0,false)] ⟨rfl,rfl,rfl,trivial⟩ rfl) ⟨az _,rfl,by rw[hall]; simp⟩ ?_
 rintro⟨i,q',l⟩ ⟨hi,hll,hb2⟩
 dsimp only at hi hll hb2
 refine AOc (fun h=>?_) fun h=>?_
 ·have hi':i<K:=by simp at h; omega
  rw[show K-i=(K-(i+1))+1 from AOh,IM] at hb2
  have hg2:=GN b q' hb hl
  exact AIl
 ·have hi':i=K:=by simp at h; omega
  subst hi'
  rw[jP,IM] at hb2
  simp only[bW,bI] at hb2
  rw[← hb2]
  simp only[go_sem,Y4,AQ]
  try exact AIj
theorem jU (b:List Int) (p:Int) (hb:Ad b) (hl:b.length≤1048576):Ctr prog 346 [.c (.sl (b.map byteC)),.c (.v (.int .i64 (p)))] (Y4 (FT b p)):=by
 refine CM call346 func346 ntmps346 results346 fun hw=>?_
 simp only[go_sem,ae]
 have hg:=GM b p hb hl
 rcases h1:BX b p with _ | ⟨k,q⟩<;>rw[h1] at hg<;>simp only[Vw] at hg
 ·refine AAT _ hg fun _=>?_
  simp only[go_sem,FT,h1,Y4]
  try simp[DI]
 refine AAT _ hg fun _=>?_
 simp only[go_sem]
 refine AAT _ (AP _ _ _) fun _=>?_
 rcases h2:Aa k 0 64 with _ | _
 ·exact ANb
 have hk:0≤k∧k≤64:=AOr
 obtain⟨K,rfl⟩:=aO hk.1
 have hall:FT b p=IM b K q:=by simp only[FT,h1,bu hk,bH]
 simp only[go_sem,h2]
 refine AB6 [30] (A:=Nat×Nat×List Int) (fun x=>[(11,.c (.v (.int .i64 (x.1)))),(10,.c (.ref 0)),(8,.c (.v (.int .i64 ((x.2.1:Int)))))]) (fun x=>[⟨3,1,x.2.2.map intC,true,true⟩]) (fun x=>x.1≤K∧x.2.2.length=x.1∧(IM b (K-x.1) x.2.1).map (fun y=>(x.2.2++y.1,y.2))=FT b p) (fun x=>K-x.1) (0,q,[]) (AB3 [(0,false)] ⟨rfl,rfl,rfl,trivial⟩ rfl) ⟨az _,rfl,by rw[hall]; simp⟩ ?_
 rintro⟨i,q',l⟩ ⟨hi,hll,hb2⟩
 dsimp only at hi hll hb2
 refine AOc (fun h=>?_) fun h=>?_
 ·have hi':i<K:=by simp at h; omega
  rw[show K-i=(K-(i+1))+1 from AOh,IM] at hb2
  have hg2:=GM b q' hb hl
  exact AIl
 ·have hi':i=K:=by simp at h; omega
  subst hi'
  rw[jP,IM] at hb2
  simp only[bW,bI] at hb2
  rw[← hb2]
  simp only[go_sem,Y4,AQ]
  try exact AIj
theorem all1 {p:Ob→Bool} {x:Ob} (h:p x=true) : [x].all p=true:=by simp[h]
def ZU:Option (List Int)→List Res
 | some l=>[.own 3 1 (l.map intC) true,.val (.c (.v (.bool (true))))]
 | none=>[.own 3 1 [] true,.val (.c (.v (.bool (false))))]
def qy (b:List Int) (W i:Nat):List Int:=(List.range i).map fun m:Nat=>Ns b ((m:Int)*W) W
theorem ABG (b:List Int) (W i:Nat):(qy b W i).length=i:=by simp[qy]
theorem gI (b:List Int) (n:Int):0≤FM b n∧FM b n≤1:=by
 unfold FM
 grind
theorem gJ (b:List Int) (o:Int):∀ j:Nat,0≤Ns b o j∧Ns b o j<2 ^ j
 | 0=>by simp[Ns]
 | j+1=>by
  have h1:=gJ b o j
  have h2:=gI b (o+j)
  have hp:(0:Int)<2 ^ j:=Int.pow_pos AOh
  have h3:0≤FM b (o+j)*2 ^ j:=aaX h2.1 AOh
  have h4:FM b (o+j)*2 ^ j≤1*2 ^ j:=aad h2.2 AOh
  rw[Ns,aa9]; omega
theorem Vx (b:List Int) (w k:Int) (hb:Ad b) (hl:b.length≤1048576):Ctr prog 421 [.c (.sl (b.map byteC)),.c (.v (.int .i64 (w))),.c (.v (.int .i64 (k)))] (ZU (unpack b w k)):=by
 refine CM call421 func421 ntmps421 results421 fun hw=>?_
 simp only[go_sem,ae]
 refine AAT _ (AL _ _ _) fun _=>?_
 rcases h1:Aa w 0 31 with _ | _
 ·exact AMg
 simp only[go_sem,h1]
 refine AAT _ (AL _ _ _) fun _=>?_
 rcases h2:Aa k 0 64 with _ | _
 ·exact AMc
 simp only[go_sem,h1,h2,ae]
 refine AAT _ (fU _ _) fun _=>?_
 rcases h3:(b.length:Int) != Ff k w with _ | _
 rotate_left
 ·exact AMh
 have hlen:(b.length:Int)=Ff k w:=AOx
 have hw0:0≤w∧w≤31:=APv
 have hk0:0≤k∧k≤64:=APv
 simp only[go_sem,h1,h2,h3,ae]
 obtain⟨W,rfl⟩:=aO hw0.1
 obtain⟨K,rfl⟩:=aO hk0.1
 have hKW:K*W≤64*31:=abd AOh AOh
 have hlen8:b.length=(K*W+7)/8:=by
  exact ANo
 have hsucc:∀ i:Nat,(qy b W (i+1)).map intC=(qy b W i).map intC ++ [[.v (.int .i64 (Ns b ((i:Int)*W) W))]]:=fun i=>by
  rw[qy,List.range_succ,XC,XC]; rfl
 refine AB6 [29] (A:=Nat) (fun i=>[(9,.c (.v (.int .i64 (i)))),(8,.c (.ref 0))]) (fun i=>[⟨3,1,(qy b W i).map intC,true,true⟩]) (fun i=>i≤K) (fun i=>K-i) 0 (AB3 [(0,false)] ⟨rfl,rfl,rfl,trivial⟩ rfl) (az _) ?_
 intro i hi
 refine AOc (fun h=>?_) fun h=>?_
 ·have hi':i<K:=by simp at h; omega
  have hiW:i*W≤64*31:=abd AOh AOh
  have eiW:(i:Int)*W=((i*W:Nat):Int):=AOi
  have e1:IntKind.i64.wrap ((i:Int)*W)=((i:Int)*W):=wrap_i64 AOh AOh
  simp only[go_sem]
  refine AB4 1 (A:=Nat) (fun j=>[(11,.c (.v (.int .i64 (j)))),(10,.c (.v (.int .i64 (Ns b ((i:Int)*W) j))))]) (fun _=>[⟨3,1,(qy b W i).map intC,true,true⟩]) (fun j=>j≤W) (fun j=>W-j) 0 ⟨⟨rfl,all1 (AU (AQ _))⟩,rfl,az _⟩ ?_
  intro j hj
  simp only[go_sem,ae]
  refine AA0 (fun h2=>?_) (fun h2=>?_)
  ·have hj':j<W:=by simp at h2; omega
   have e2:IntKind.i64.wrap ((i:Int)*W+j)=(i:Int)*W+j:=wrap_i64 AOh AOh
   have h01:=gI b ((i:Int)*W+j)
   have hbd:=gJ b ((i:Int)*W) j
   have hp:(0:Int)<2 ^ j:=Int.pow_pos AOh
   have hp2:(2:Int) ^ j≤2 ^ 31:=APj
   have h3:0≤FM b ((i:Int)*W+j)*2 ^ j:=aaX h01.1 AOh
   have h4:FM b ((i:Int)*W+j)*2 ^ j≤1*2 ^ j:=aad h01.2 AOh
   have e3:IntKind.i64.wrap (FM b ((i:Int)*W+j)*2 ^ min j 64)=FM b ((i:Int)*W+j)*2 ^ j:=by
    rw[dO AOh,wrap_i64 AOh AOh]
   have e4:IntKind.i64.wrap (orK .i64 (Ns b ((i:Int)*W) j) (FM b ((i:Int)*W+j)*2 ^ j))=Ns b ((i:Int)*W) (j+1):=by
    exact ANQ
   simp only[go_sem,e1,e2]
   refine AAT _ (YU b _ hb hl AOh) fun _=>?_
   exact AMz
  ·exact ALB
 ·have hi':i=K:=by simp at h; omega
  subst hi'
  have ekw:(i:Int)*W=((i*W:Nat):Int):=AOi
  have e1:IntKind.i64.wrap ((i:Int)*W)=((i*W:Nat):Int):=by rw[wrap_i64 AOh AOh,ekw]
  have e8:IntKind.i64.wrap (8*(b.length:Int))=((8*b.length:Nat):Int):=AOm
  simp only[go_sem,e1]
  refine AB4 1 (A:=Nat) (fun n=>[(12,.c (.v (.int .i64 ((n:Int)))))]) (fun _=>[⟨3,1,(qy b W i).map intC,true,true⟩]) (fun n=>i*W≤n∧n≤8*b.length∧∀ m,i*W≤m→m<n→FM b (m:Int)=0) (fun n=>8*b.length-n) (i*W) ⟨⟨rfl,all1 (AU (AQ _))⟩,rfl,aT _,AOh,fun m h1 h2=>AOh⟩ ?_
  rintro n ⟨hn1,hn2,hz⟩
  simp only[go_sem,ae,e8]
  refine AA0 (fun h2=>?_) (fun h2=>?_)
  ·have hn':n<8*b.length:=by simp at h2; omega
   simp only[go_sem]
   refine AAT _ (YU b _ hb hl AOh) fun _=>?_
   exact AJa
  ·exact ALn
theorem Vy (b:List Int) (w k:Int) (hb:Ad b) (hl:b.length≤1048576):Ctr prog 414 [.c (.sl (b.map byteC)),.c (.v (.int .i64 (w))),.c (.v (.int .i64 (k)))] (ZU (unpack b w k)):=by
 refine CM call414 func414 ntmps414 results414 fun hw=>?_
 simp only[go_sem,ae]
 refine AAT _ (AP _ _ _) fun _=>?_
 rcases h1:Aa k 0 64 with _ | _
 ·exact AMg
 simp only[go_sem,h1]
 refine AAT _ (AP _ _ _) fun _=>?_
 rcases h2:Aa w 0 31 with _ | _
 ·exact AMc
 simp only[go_sem,h1,h2,ae]
 refine AAT _ (fV _ _) fun _=>?_
 rcases h3:(b.length:Int) != Ff k w with _ | _
 rotate_left
 ·exact AMh
 have hlen:(b.length:Int)=Ff k w:=AOx
 have hw0:0≤w∧w≤31:=APv
 have hk0:0≤k∧k≤64:=APv
 simp only[go_sem,h1,h2,h3,ae]
 obtain⟨W,rfl⟩:=aO hw0.1
 obtain⟨K,rfl⟩:=aO hk0.1
 have hKW:K*W≤64*31:=abd AOh AOh
 have hlen8:b.length=(K*W+7)/8:=by
  exact ANo
 have hsucc:∀ i:Nat,(qy b W (i+1)).map intC=(qy b W i).map intC ++ [[.v (.int .i64 (Ns b ((i:Int)*W) W))]]:=fun i=>by
  rw[qy,List.range_succ,XC,XC]; rfl
 refine AB6 [13] (A:=Nat) (fun i=>[(9,.c (.v (.int .i64 (i)))),(8,.c (.ref 0))]) (fun i=>[⟨3,1,(qy b W i).map intC,true,true⟩]) (fun i=>i≤K) (fun i=>K-i) 0 (AB3 [(0,false)] ⟨rfl,rfl,rfl,trivial⟩ rfl) (az _) ?_
 intro i hi
 refine AOc (fun h=>?_) fun h=>?_
 ·have hi':i<K:=by simp at h; omega
  have hiW:i*W≤64*31:=abd AOh AOh
  have eiW:(i:Int)*W=((i*W:Nat):Int):=AOi
  have e1:IntKind.i64.wrap ((i:Int)*W)=((i:Int)*W):=wrap_i64 AOh AOh
  simp only[go_sem]
  refine AB4 1 (A:=Nat) (fun j=>[(11,.c (.v (.int .i64 (j)))),(10,.c (.v (.int .i64 (Ns b ((i:Int)*W) j))))]) (fun _=>[⟨3,1,(qy b W i).map intC,true,true⟩]) (fun j=>j≤W) (fun j=>W-j) 0 ⟨⟨rfl,all1 (AU (AQ _))⟩,rfl,az _⟩ ?_
  intro j hj
  simp only[go_sem,ae]
  refine AA0 (fun h2=>?_) (fun h2=>?_)
  ·have hj':j<W:=by simp at h2; omega
   have e2:IntKind.i64.wrap ((i:Int)*W+j)=(i:Int)*W+j:=wrap_i64 AOh AOh
   have h01:=gI b ((i:Int)*W+j)
   have hbd:=gJ b ((i:Int)*W) j
   have hp:(0:Int)<2 ^ j:=Int.pow_pos AOh
   have hp2:(2:Int) ^ j≤2 ^ 31:=APj
   have h3:0≤FM b ((i:Int)*W+j)*2 ^ j:=aaX h01.1 AOh
   have h4:FM b ((i:Int)*W+j)*2 ^ j≤1*2 ^ j:=aad h01.2 AOh
   have e3:IntKind.i64.wrap (FM b ((i:Int)*W+j)*2 ^ min j 64)=FM b ((i:Int)*W+j)*2 ^ j:=by
    rw[dO AOh,wrap_i64 AOh AOh]
   have e4:IntKind.i64.wrap (orK .i64 (Ns b ((i:Int)*W) j) (FM b ((i:Int)*W+j)*2 ^ j))=Ns b ((i:Int)*W) (j+1):=by
    exact ANQ
   simp only[go_sem,e1,e2]
   refine AAT _ (YV b _ hb hl AOh) fun _=>?_
   exact AMz
  ·exact ALB
 ·have hi':i=K:=by simp at h; omega
  subst hi'
  have ekw:(i:Int)*W=((i*W:Nat):Int):=AOi
  have e1:IntKind.i64.wrap ((i:Int)*W)=((i*W:Nat):Int):=by rw[wrap_i64 AOh AOh,ekw]
  have e8:IntKind.i64.wrap (8*(b.length:Int))=((8*b.length:Nat):Int):=AOm
  simp only[go_sem,e1]
  refine AB4 1 (A:=Nat) (fun n=>[(12,.c (.v (.int .i64 ((n:Int)))))]) (fun _=>[⟨3,1,(qy b W i).map intC,true,true⟩]) (fun n=>i*W≤n∧n≤8*b.length∧∀ m,i*W≤m→m<n→FM b (m:Int)=0) (fun n=>8*b.length-n) (i*W) ⟨⟨rfl,all1 (AU (AQ _))⟩,rfl,aT _,AOh,fun m h1 h2=>AOh⟩ ?_
  rintro n ⟨hn1,hn2,hz⟩
  simp only[go_sem,ae,e8]
  refine AA0 (fun h2=>?_) (fun h2=>?_)
  ·have hn':n<8*b.length:=by simp at h2; omega
   simp only[go_sem]
   refine AAT _ (YV b _ hb hl AOh) fun _=>?_
   exact AJa
  ·exact ALn
def Xa (l:List Int) (w:Int):Prop:=(0≤w∧w≤31)∧∀ n∈l,(0≤n∧n≤2147483647)∧Aq n≤w
def pb (l:List Int) (W N m:Nat):Int:=GZ l (W:Int) m (min 8 (N-8*m))
def We (l:List Int) (W N c:Nat):List Int:=(List.range c).map fun m=>pb l W N m
theorem Mc (l:List Int) (W N c:Nat):(We l W N c).length=c:=by simp[We]
theorem Ua (l:List Int) (w:Int) (n:Nat):0≤E8 l w n∧E8 l w n≤1:=by
 unfold E8
 split<;>omega
theorem YW (l:List Int) (w:Int) (m:Nat):∀ t:Nat,0≤GZ l w m t∧GZ l w m t<2 ^ t
 | 0=>by simp[GZ]
 | t+1=>by
  have h1:=YW l w m t
  have h2:=Ua l w (8*m+t)
  have hp:(0:Int)<2 ^ t:=Int.pow_pos AOh
  have h3:0≤E8 l w (8*m+t)*2 ^ t:=aaX h2.1 AOh
  have h4:E8 l w (8*m+t)*2 ^ t≤1*2 ^ t:=aad h2.2 AOh
  rw[GZ,aa9]; omega
theorem wF {l:List Int} {W n:Nat} (h:l.length*W≤n) (hW:0<W):E8 l (W:Int) n=0:=by
 unfold E8
 rw[bH,uU]
 exact(Nat.le_div_iff_mul_le hW).2 h
theorem Vz {l:List Int} {W m:Nat} (hW:0<W):∀ t s:Nat,l.length*W≤8*m+t→GZ l (W:Int) m (t+s)=GZ l (W:Int) m t
 | t,0,_=>rfl
 | t,s+1,h=>by
  rw[show t+(s+1)=(t+s)+1 from AOh,GZ,wF AOh hW,Vz hW t s h]; simp
theorem AH9 {l:List Int} {W m:Nat} (hW:0<W):pb l W (l.length*W) m=GZ l (W:Int) m 8:=by
 unfold pb
 rcases bQ (l.length*W-8*m) 8 with h | h
 ·rw[Nat.min_eq_right AOh]
  have:=Vz (l:=l) (m:=m) hW (l.length*W-8*m) (8-(l.length*W-8*m)) AOh
  rw[← this]; congr 1; omega
 ·rw[dO h]
theorem YX {l:List Int} {W:Nat} (h:Xa l W):Eg l W=We l W (l.length*W) ((l.length*W+7)/8):=by
 unfold Eg We
 unfold Xa at h
 rw[bu h,bH]
 refine aaM fun m hm=>?_
 have hm':=abm.1 hm
 rcases abk W with rfl | hW
 ·omega
 ·exact(AH9 hW).symm
theorem OV {l:List Int} {w:Int} (h:¬ Xa l w):Eg l w = []:=by
 unfold Eg
 exact aZ h
theorem gK {l:List Int} {W i k:Nat} (hi:i<l.length) (hk:k<W):E8 l (W:Int) (i*W+k)=l[i]/2 ^ k%2:=by
 unfold E8
 have e1:(i*W+k)/W=i:=by rw[Nat.mul_comm,Nat.mul_add_div AOh,Nat.div_eq_of_lt hk]; rfl
 have e2:(i*W+k)%W=k:=by rw[Nat.mul_comm,Nat.mul_add_mod,abH hk]
 rw[bH,e1,e2,au hi]
theorem ZV (l:List Int) (W N:Nat):pb l W (N+1) (N/8)=pb l W N (N/8)+E8 l (W:Int) N*2 ^ (N%8):=by
 unfold pb
 have e1:min 8 (N+1-8*(N/8))=N%8+1:=AOh
 have e2:min 8 (N-8*(N/8))=N%8:=AOh
 rw[e1,e2,GZ]
 have e3:8*(N/8)+N%8=N:=AOh
 rw[e3]
theorem ABH (l:List Int) (W N m:Nat) (h:m≠N/8):pb l W (N+1) m=pb l W N m:=by
 unfold pb
 have e1:min 8 (N+1-8*m)=min 8 (N-8*m):=AOh
 rw[e1]
theorem AKG (l:List Int) (W N:Nat):0≤pb l W N (N/8)∧pb l W N (N/8)<2 ^ (N%8):=by
 unfold pb
 have e2:min 8 (N-8*(N/8))=N%8:=AOh
 rw[e2]
 exact YW _ _ _ _
theorem p_ (l:List Int) (W N c:Nat) (h:N/8<c):((We l W N c).map byteC).set (N/8) [.v (.int .u8 (pb l W (N+1) (N/8)))]=(We l W (N+1) c).map byteC:=by
 apply abp
 intro m
 rw[yz]
 by_cases e:N/8=m
 ·subst e
  simp[We,h,O8]
 ·simp only[aZ e]
  simp only[We,List.map_map,qp]
  cases hm:(List.range c)[m]? with
  | none=>rfl
  | some x =>
   have hx:x=m:=by
    rw[List.getElem?_range] at hm
    ·simpa using hm.symm
    ·have:=(aF.1 hm).1
     simpa using this
   subst hx
   simp only[bW,Function.comp,ABH l W N x (fun h=>e h.symm)]
theorem QE (l:List Int) (W N c:Nat) {m:Nat} (h:m<c):((We l W N c).map byteC)[m]?=some [.v (.int .u8 (pb l W N m))]:=by
 simp[We,h,O8]
theorem AEa (l:List Int) (W c:Nat):List.replicate c [.v (.int .u8 0)]=(We l W 0 c).map byteC:=by
 apply abp
 intro m
 by_cases h:m<c
 ·rw[QE l W 0 c h,List.getElem?_replicate,bu h]; simp[pb,GZ]
 ·rw[uU AOj,uU (by simp[Mc]; omega)]
theorem AG3 {x:Int} {k:Nat} (h0:0≤x) (h1:x≤2147483647) (hk:k≤31):IntKind.i64.wrap (dP .i64 (IntKind.i64.wrap (x.fdiv (2 ^ min k 64))) 1)=x/2 ^ k%2:=by
 have hP:0≤x/2 ^ k:=Int.ediv_nonneg h0 (aaU AOh)
 have hP2:x/2 ^ k≤x:=Int.ediv_le_self _ h0
 rw[aaK _ (aaU AOh),dO AOh,wrap_i64 (n:=x/2 ^ k) AOh AOh,AG2 hP AOh,wrap_i64 AOh AOh]
theorem AH_ {s:Nat} (h:s≤7):(1:Int)≤2 ^ s∧(2:Int) ^ s≤128:=by
 have:s=0∨s=1∨s=2∨s=3∨s=4∨s=5∨s=6∨s=7:=AOh
 rcases this with rfl | rfl | rfl | rfl | rfl | rfl | rfl | rfl<;>decide
theorem AG4 (l:List Int) (W N:Nat) {x:Int} (h0:0≤x) (h1:x≤1):IntKind.u8.wrap (orK .u8 (pb l W N (N/8)) (x*2 ^ (N%8)))=pb l W N (N/8)+x*2 ^ (N%8):=by
 have hb:=AKG l W N
 obtain⟨p1,p2⟩:=AH_ (s:=N%8) AOh
 have h3:0≤x*2 ^ (N%8):=aaX h0 AOh
 have h4:x*2 ^ (N%8)≤1*2 ^ (N%8):=aad h1 AOh
 rw[fQ .u8 hb.1 hb.2 h0 (by simp[IntKind.bits]; omega),wrap_u8 AOh AOh]
theorem AEb {l:List Int} {W i k:Nat} (hi:i<l.length) (hk:k<W) (hW:W≤31) (h0:0≤l[i]) (h1:l[i]≤2147483647) :
  IntKind.u8.wrap (orK .u8 (pb l W (i*W+k) ((i*W+k)/8)) (IntKind.u8.wrap (IntKind.i64.wrap (IntKind.i64.wrap (dP .i64 (IntKind.i64.wrap (l[i].fdiv (2 ^ min k 64))) 1)*2 ^ min ((i*W+k)%8) 64))))=pb l W (i*W+k+1) ((i*W+k)/8):=by
 have hbit:=gK (l:=l) hi hk
 have h01:=Ua l (W:Int) (i*W+k)
 obtain⟨p1,p2⟩:=AH_ (s:=(i*W+k)%8) AOh
 have h3:0≤E8 l (W:Int) (i*W+k)*2 ^ ((i*W+k)%8):=aaX h01.1 AOh
 have h4:E8 l (W:Int) (i*W+k)*2 ^ ((i*W+k)%8)≤1*2 ^ ((i*W+k)%8):=aad h01.2 AOh
 rw[AG3 h0 h1 AOh,← hbit,dO AOh,wrap_i64 AOh AOh,wrap_u8 (n:=E8 l (W:Int) (i*W+k)*2 ^ ((i*W+k)%8)) AOh AOh,AG4 l W _ h01.1 h01.2,ZV]
theorem wG (l:List Int) (W N c:Nat) (h:E8 l (W:Int) N=0):We l W (N+1) c=We l W N c:=by
 unfold We
 refine aaM fun m _=>?_
 by_cases e:m=N/8
 ·subst e; rw[ZV,h]; simp
 ·exact ABH l W N m e
theorem ACZ (l:List Int) (W N:Nat) (h:N%8=0):(We l W N ((N+7)/8)).map byteC ++ [[.v (.int .u8 0)]]=(We l W N (N/8+1)).map byteC:=by
 have e:(N+7)/8=N/8:=AOh
 have e2:min 8 (N-8*(N/8))=0:=AOh
 rw[e,We,We,List.range_succ,XC,XC]
 simp[pb,e2,GZ,O8]
theorem wH (l:List Int) (w:Int) (hl:l.length≤1048576):∃ r:Bool,(r=true↔Xa l w)∧Ctr prog 457 [.c (.sl (l.map intC)),.c (.v (.int .i64 (w)))] [.val (.c (.v (.bool (r))))]:=by
 haveI:Decidable (Xa l w):=Classical.propDecidable _
 refine⟨decide (Xa l w),AOi, ?_⟩
 refine CM call457 func457 ntmps457 results457 fun hw=>?_
 simp only[go_sem,ae]
 refine AB4 0 (A:=Nat) (fun x=>[(5,.c (.v (.int .i64 (x))))]) (fun _=>[]) (fun x=>x≤l.length∧∀ m (h:m<l.length),m<x→(0≤l[m]∧l[m]≤2147483647)∧Aq l[m]≤w) (fun x=>l.length-x) 0 ⟨⟨rfl,rfl⟩,rfl,az _,fun m h h2=>AOh⟩ ?_
 rintro i ⟨hi,hb⟩
 refine AOc (fun h=>?_) fun h=>?_
 ·have hi':i<l.length:=by simpa using h
  simp only[go_sem,ae,AA _ hi']
  refine AAT _ (AP _ _ _) fun _=>?_
  rcases h1:Aa l[i] 0 2147483647 with _ | _
  ·simp only[go_sem,h1]
   have:¬ Xa l w:=by
    rintro⟨_,q⟩
    have:=(q _ (ax hi')).1
    simp[Aa] at h1; omega
   simp only[this,abK]
  simp only[go_sem,h1,ae,AA _ hi']
  refine AAT _ (JK _) fun _=>?_
  rcases h2:decide (Aq l[i]>w) with _ | _
  ·exact ALs
  ·simp only[go_sem,h1,h2]
   have:¬ Xa l w:=by
    rintro⟨_,q⟩
    have:=(q _ (ax hi')).2
    simp at h2; omega
   simp only[this,abK]
 ·have hi':i=l.length:=by simp at h; omega
  subst hi'
  simp only[go_sem]
  refine AAT _ (AP _ _ _) fun _=>?_
  simp only[go_sem]
  have hall:∀ n∈l,(0≤n∧n≤2147483647)∧Aq n≤w:=fun n hn=>by
   obtain⟨m,hm,rfl⟩:=aay hn
   exact hb m hm hm
  congr 4
  rw[Bool.eq_iff_iff]
  simp only[bf]
  constructor
  ·intro q; exact⟨by simp[Aa] at q; omega,hall⟩
  ·intro q; have:=q.1; simp[Aa]; omega
theorem gQ (l:List Int) (w:Int) (hl:l.length≤64):Ctr prog 437 [.c (.sl (l.map intC)),.c (.v (.int .i64 (w)))] [.own 5 1 ((Eg l w).map byteC) true]:=by
 refine CM call437 func437 ntmps437 results437 fun hw=>?_
 simp only[go_sem,ae]
 refine AAT _ (AL _ _ _) fun _=>?_
 rcases h1:Aa w 0 31 with _ | _
 ·have:¬ Xa l w:=by rintro⟨q,_⟩; simp[Aa] at h1; omega
  simp only[go_sem,h1,OV this,cu]
  try simp[DI]
 have hw0:0≤w∧w≤31:=APH
 obtain⟨W,rfl⟩:=aO hw0.1
 simp only[go_sem,h1,ae]
 refine AB4 0 (A:=Nat) (fun x=>[(17,.c (.v (.int .i64 (x))))]) (fun _=>[]) (fun x=>x≤l.length∧∀ m (h:m<l.length),m<x→(0≤l[m]∧l[m]≤2147483647)∧Aq l[m]≤W) (fun x=>l.length-x) 0 ⟨⟨rfl,rfl⟩,rfl,az _,fun m h h2=>AOh⟩ ?_
 rintro i ⟨hi,hb⟩
 refine AOc (fun h=>?_) fun h=>?_
 ·have hi':i<l.length:=by simpa using h
  simp only[go_sem,ae,AA _ hi']
  refine AAT _ (AL _ _ _) fun _=>?_
  rcases h1:Aa l[i] 0 2147483647 with _ | _
  ·simp only[go_sem,h1]
   have:¬ Xa l W:=by
    rintro⟨_,q⟩
    have:=(q _ (ax hi')).1
    simp[Aa] at h1; omega
   rw[OV this]
   simp only[go_sem]
   try simp[DI]
  simp only[go_sem,h1,ae,AA _ hi']
  refine AAT _ (LH _) fun _=>?_
  rcases h2:decide (Aq l[i]>W) with _ | _
  ·exact ALs
  ·simp only[go_sem,h1,h2]
   have:¬ Xa l W:=by
    rintro⟨_,q⟩
    have:=(q _ (ax hi')).2
    simp at h2; omega
   rw[OV this]
   simp only[go_sem]
   try simp[DI]
 have hi':i=l.length:=AOs
 subst hi'
 have hfit:Xa l W:=⟨hw0,fun n hn=>by
  obtain⟨m,hm,rfl⟩:=aay hn
  exact hb m hm hm⟩
 have hLW:l.length*W≤64*31:=abd AOh AOh
 have eLW:(l.length:Int)*W=((l.length*W:Nat):Int):=AOi
 have e1:IntKind.i64.wrap ((l.length:Int)*W)=((l.length*W:Nat):Int):=by rw[wrap_i64 AOh AOh,eLW]
 have e2:IntKind.i64.wrap (((l.length*W:Nat):Int)+7)=((l.length*W+7:Nat):Int):=AOm
 obtain⟨c,hcd⟩:∃ c,c=(l.length*W+7)/8:=⟨_,rfl⟩
 have e3:IntKind.i64.wrap ((((l.length*W+7:Nat):Int)).tdiv 8)=(c:Int):=AOy
 have hf1:(0≤(c:Int))=True:=AOi
 have hf2:((c:Int)≤(c:Int))=True:=AOi
 have hf3:((c:Int)≤2147483648)=True:=AOj
 simp only[go_sem,ae,e1,e2,e3,hf1,hf2,hf3,AEa l W]
 rw[YX hfit,← hcd]
 refine AB4 1 (A:=Nat) (fun i=>[(40,.c (.v (.int .i64 (i))))]) (fun i=>[⟨5,1,(We l W (i*W) c).map byteC,true,true⟩]) (fun i=>i≤l.length) (fun i=>l.length-i) 0 ⟨⟨rfl,all1 (AU (Bv _))⟩,by rw[Nat.zero_mul]; rfl,az _⟩ ?_
 intro i hi
 refine AOc (fun h=>?_) fun h=>?_
 ·have hi':i<l.length:=by simpa using h
  have hli:=hb i hi' hi'
  simp only[go_sem,ae,AA _ hi']
  refine AB4 1 (A:=Nat) (fun k=>[(10,.c (.v (.int .i64 (k))))]) (fun k=>[⟨5,1,(We l W (i*W+k) c).map byteC,true,true⟩]) (fun k=>k≤W) (fun k=>W-k) 0 ⟨⟨rfl,all1 (AU (Bv _))⟩,rfl,az _⟩ ?_
  intro k hk
  refine AOc (fun h=>?_) fun h=>?_
  ·have hk':k<W:=by simp at h; omega
   have hN:i*W+k<l.length*W:=by
    have:(i+1)*W≤l.length*W:=aaw _ hi'
    rw[jH] at this; omega
   have hNc:(i*W+k)/8<c:=AOh
   have hiW:i*W≤64*31:=abd AOh AOh
   have eiW:(i:Int)*W=((i*W:Nat):Int):=AOi
   have q1:IntKind.i64.wrap ((i:Int)*W)=((i*W:Nat):Int):=by rw[wrap_i64 AOh AOh,eiW]
   have q2:IntKind.i64.wrap (((i*W:Nat):Int)+k)=((i*W+k:Nat):Int):=AOm
   have q3:IntKind.i64.wrap ((((i*W+k:Nat):Int)).tdiv 8)=(((i*W+k)/8:Nat):Int):=AOy
   have q4:IntKind.i64.wrap ((((i*W+k:Nat):Int)).tmod 8)=(((i*W+k)%8:Nat):Int):=AO6
   simp only[go_sem,ae,q1,q2,q3,q4,Mc,QE l W _ c hNc,hNc]
   refine ABU ?_
   simp only[go_sem,ae,q1,q2,q3,q4,Mc,QE l W _ c hNc,hNc]
   rw[AEb hi' hk' AOh hli.1.1 hli.1.2,p_ l W _ c hNc]
   simp only[wrap_i64 (n:=(k:Int)+1) AOh AOh]
   exact⟨k+1,⟨rfl,all1 (AU (Bv _))⟩,rfl,hk',AOh⟩
  ·have hk':k=W:=by simp at h; omega
   subst hk'
   simp only[go_sem,wrap_i64 (n:=(i:Int)+1) AOh AOh]
   exact⟨i+1,⟨rfl,all1 (AU (Bv _))⟩,by rw[jH,Nat.one_mul]; rfl,hi',AOh⟩
 ·have hi':i=l.length:=by simp at h; omega
  subst hi'
  simp only[go_sem,Bv]
  try exact AIj
theorem gU (l:List Int) (w:Int) (hl:l.length≤64):Ctr prog 429 [.c (.sl (l.map intC)),.c (.v (.int .i64 (w)))] [.own 5 1 ((Eg l w).map byteC) true]:=by
 refine CM call429 func429 ntmps429 results429 fun hw=>?_
 simp only[go_sem,ae]
 obtain⟨r,hr,hc⟩:=wH l w AOh
 refine AAT _ hc fun _=>?_
 cases r with
 | false =>
  have:¬ Xa l w:=fun q=>by have:=hr.2 q; cases this
  simp only[go_sem,OV this,cu]
  try simp[DI]
 | true =>
 have hfit:=hr.1 rfl
 simp only[go_sem,ae]
 obtain⟨W,rfl⟩:=aO hfit.1.1
 have hW31:W≤31:=by have:=hfit.1.2; omega
 have hLW:l.length*W≤64*31:=abd AOh AOh
 rw[YX hfit]
 refine AB6 [9] (A:=Nat) (fun i=>[(7,.c (.v (.int .i64 (i)))),(6,.c (.v (.int .i64 ((i*W:Nat):Int)))),(5,.c (.ref 0))]) (fun i=>[⟨5,1,(We l W (i*W) ((i*W+7)/8)).map byteC,true,true⟩]) (fun i=>i≤l.length) (fun i=>l.length-i) 0 (AB3 [(0,false)] ⟨rfl,rfl,rfl,trivial⟩ (by rw[Nat.zero_mul]; rfl)) (az _) ?_
 intro i hi
 refine AOc (fun h=>?_) fun h=>?_
 ·have hi':i<l.length:=by simp at h; omega
  have hli:=hfit.2 _ (ax hi')
  simp only[go_sem,ae]
  refine AB6 [] (A:=Nat) (fun k=>[(8,.c (.v (.int .i64 (k)))),(6,.c (.v (.int .i64 ((i*W+k:Nat):Int)))),(5,.c (.ref 0))]) (fun k=>[⟨5,1,(We l W (i*W+k) ((i*W+k+7)/8)).map byteC,true,true⟩]) (fun k=>k≤W) (fun k=>W-k) 0 (AB3 [(0,false)] ⟨rfl,rfl,AY byteC.pure,trivial⟩ rfl) (az _) ?_
  intro k hk
  refine AOc (fun h=>?_) fun h=>?_
  ·have hk':k<W:=by simp at h; omega
   have hN:i*W+k<l.length*W:=by
    have:(i+1)*W≤l.length*W:=aaw _ hi'
    rw[jH] at this; omega
   have hbit:=gK (l:=l) hi' hk'
   generalize hNN:i*W+k=N at hN hbit
   have q3:IntKind.i64.wrap (((N:Nat):Int).tdiv 8)=((N/8:Nat):Int):=AOy
   have q4:IntKind.i64.wrap (((N:Nat):Int).tmod 8)=((N%8:Nat):Int):=AO6
   have q5:IntKind.i64.wrap ((N:Int)+1)=((N+1:Nat):Int):=AOm
   have q6:IntKind.i64.wrap ((k:Int)+1)=((k+1:Nat):Int):=AOm
   have hNc:N/8<N/8+1:=AOh
   have hol2:(N+7)/8+1≤2147483648:=AOh
   have hs1:=AG3 (k:=k) hli.1.1 hli.1.2 AOh
   rw[← hbit] at hs1
   have h01:=Ua l (W:Int) N
   obtain⟨p1,p2⟩:=AH_ (s:=N%8) AOh
   have hsh:IntKind.u8.wrap (1*2 ^ min (N%8) 8)=1*2 ^ (N%8):=by rw[dO AOh,wrap_u8 AOh AOh]
   have hor:=AG4 l W N (x:=1) AOh AOh
   rcases h8:((N%8:Nat):Int)==0 with _ | _<;>rcases h9:E8 l (W:Int) N==1 with _ | _
   all_goals
    have hsn:N%8=0→(We l W N ((N+7)/8)).map byteC ++ [[.v (.int .u8 0)]]=(We l W N (N/8+1)).map byteC:=ACZ l W N
   case false.false =>
    have e0:E8 l (W:Int) N=0:=by simp at h9; omega
    have h8':N%8≠0:=by simp at h8; omega
    simp only[go_sem,ae,q3,q4,q5,q6,h8,h9,hs1,AA _ hi',Mc]
    have hr:We l W (N+1) ((N+1+7)/8)=We l W N ((N+7)/8):=by rw[wG l W N _ e0,show (N+1+7)/8=(N+7)/8 from AOh]
    exact⟨k+1,AB3 [(0,false)] ⟨rfl,rfl,AY byteC.pure,trivial⟩ (by rw[show i*W+(k+1)=N+1 from AOh,hr]; rfl),hk',AOh⟩
   case true.false =>
    have e0:E8 l (W:Int) N=0:=by simp at h9; omega
    have h8':N%8=0:=by simp at h8; omega
    have hsn:=hsn h8'
    simp only[go_sem,ae,bC,bU,q3,q4,q5,q6,h8,h9,hs1,hsn,hol2,aI,AA _ hi',Mc]
    have hr:We l W (N+1) ((N+1+7)/8)=We l W N (N/8+1):=by rw[wG l W N _ e0,show (N+1+7)/8=N/8+1 from AOh]
    exact⟨k+1,AB3 [(2,false)] ⟨rfl,rfl,AY byteC.pure,trivial⟩ (by rw[show i*W+(k+1)=N+1 from AOh,hr]; rfl),hk',AOh⟩
   case false.true =>
    have e1:E8 l (W:Int) N=1:=by simpa using h9
    have h8':N%8≠0:=by simp at h8; omega
    have ec:(N+7)/8=N/8+1:=AOh
    have hv:pb l W N (N/8)+1*2 ^ (N%8)=pb l W (N+1) (N/8):=by rw[ZV,e1]
    rw[hv] at hor
    have hset:=p_ l W N (N/8+1) hNc
    simp only[go_sem,ae,q3,q4,q5,q6,h8,h9,hs1,ec,hsh,hor,AA _ hi',Mc,QE l W N _ hNc,hNc]
    refine ABU ?_
    simp only[go_sem,ae,q3,q4,q5,q6,h8,h9,hs1,ec,hsh,hor,AA _ hi',Mc,QE l W N _ hNc,hNc,hset]
    exact⟨k+1,AB3 [(0,false)] ⟨rfl,rfl,AY byteC.pure,trivial⟩ (by rw[show i*W+(k+1)=N+1 from AOh,show (N+1+7)/8=N/8+1 from AOh]; rfl),hk',AOh⟩
   case true.true =>
    have e1:E8 l (W:Int) N=1:=by simpa using h9
    have h8':N%8=0:=by simp at h8; omega
    have hsn:=hsn h8'
    have hv:pb l W N (N/8)+1*2 ^ (N%8)=pb l W (N+1) (N/8):=by rw[ZV,e1]
    rw[hv] at hor
    have hset:=p_ l W N (N/8+1) hNc
    simp only[go_sem,ae,bC,bU,q3,q4,q5,q6,h8,h9,hs1,hsn,hol2,aI,hsh,hor,AA _ hi',Mc,QE l W N _ hNc,hNc]
    refine ABU ?_
    simp only[go_sem,ae,q3,q4,q5,q6,h8,h9,hs1,hsn,hsh,hor,AA _ hi',Mc,QE l W N _ hNc,hNc,hset]
    exact⟨k+1,AB3 [(2,false)] ⟨rfl,rfl,AY byteC.pure,trivial⟩ (by rw[show i*W+(k+1)=N+1 from AOh,show (N+1+7)/8=N/8+1 from AOh]; rfl),hk',AOh⟩
  ·have hk':k=W:=by simp at h; omega
   subst hk'
   simp only[go_sem,wrap_i64 (n:=(i:Int)+1) AOh AOh]
   exact⟨i+1,AB3 [(0,false)] ⟨rfl,rfl,AY byteC.pure,trivial⟩ (by rw[jH,Nat.one_mul]; rfl),hi',AOh⟩
 ·have hi':i=l.length:=by simp at h; omega
  subst hi'
  simp only[go_sem,Bv]
  try exact AIj
end Go.Proofs.YtnoldekcdlaahaaGreat
