/- A part. -/
import Derived.Test.YthmifbbmgnhddaaGreatYn
import Derived.Test.YthmifbbmgnhddaaGreatIa
set_option linter.unusedSimpArgs false
set_option linter.unusedVariables false
set_option maxHeartbeats 2000000
set_option maxRecDepth 10000
open Go.Proofs.Tryz
namespace Go.Proofs.YthmifbbmgnhddaaGreat
open Go.Vm
theorem mW (b:List Int) (ty k:Int) (hb:Af b) (hl:b.length≤1048576):Ctr prog 386 [.c (.sl (b.map byteC)),.c (.v (.int .i64 (ty))),.c (.v (.int .i64 (k)))] (Dt (GV b ty k)):=by
 rw[← kz hb]
 refine CM call386 func386 ntmps386 results386 fun hw=>?_
 simp only[go_sem]
 have hg:=Gt b 0 hb hl
 rcases h1:BU b 0 with _ | ⟨n,q⟩<;>rw[h1] at hg<;>simp only[Xn] at hg
 ·have e:Kz b ty k=none:=by simp only[Kz,h1]
  rw[e]
  refine AAN _ hg fun _=>?_
  exact AM5
 refine AAN _ hg fun _=>?_
 simp only[go_sem]
 refine AAN _ (AL _ _ _) fun _=>?_
 rcases h2:Ad n 1 64 with _ | _
 ·have e:Kz b ty k=none:=by simp only[Kz,h1]; exact bu ARH
  rw[e]
  exact APs
 have h2':1≤n∧n≤64:=ARH
 have hall:Kz b ty k=match Bq b ty n.toNat q with
   | none=>none
   | some (d,q)=>match unpack (b.drop q) (A8 (n-1)) k with
    | none=>none
    | some o=>again b k ((picked d o).getD []) (EX ((picked d o).getD [])):=by simp only[Kz,h1]; exact bG h2'
 rw[hall]
 have hgv:=Xu b q ty n hb hl h2'.2
 simp only[go_sem,h2]
 rcases h3:Bq b ty n.toNat q with _ | ⟨d,q2⟩<;>rw[h3] at hgv<;>simp only[AGz] at hgv
 ·refine AAN _ hgv fun _=>?_
  exact AM5
 refine AAN _ hgv fun _=>?_
 have hq0:=(Ig hb h1).2.2.1
 obtain⟨a1,a2,a3,_⟩:=J6 hb _ _ _ _ hq0 h3
 have q1:=Iq (k:=.i64) (n:=(q2:Int)) (m:=q2) AQ2
 have hw1:IntKind.i64.wrap (n-1)=n-1:=wrap_i64 AQ2 AQ2
 have htk:(b.drop q2).take (b.length-q2)=b.drop q2:=aat AQ3
 have hbd:Af (b.drop q2):=fun c hc=>hb c (aaM hc)
 have hu:=Xo (b.drop q2) (A8 (n-1)) k hbd AQ5
 simp only[go_sem,q1,a2,BL,aI,← cO,← cZ,htk,hw1]
 refine AAR ?_
 simp only[go_sem,q1,a2,BL,aI,← cO,← cZ,htk,hw1]
 refine ABO _ (L8 _) ?_
 simp only[go_sem,q1,a2,BL,aI,← cO,← cZ,htk,hw1]
 rcases h4:unpack (b.drop q2) (A8 (n-1)) k with _ | o<;>rw[h4] at hu<;>simp only[eP] at hu
 ·refine ABO _ hu ?_
  simp only[go_sem,q1,a2,BL,aI,← cO,← cZ,htk,hw1]
  exact AM5
 refine ABO _ hu ?_
 have hol:=Ue h4
 simp only[go_sem,q1,a2,BL,aI,← cO,← cZ,htk,hw1]
 have hr:=um d o AQ2 AQ2
 rcases h5:picked d o with _ | l<;>rw[h5] at hr<;>simp only[Dt] at hr
 ·refine AAN _ hr fun _=>?_
  simp only[go_sem,aaF]
  refine AAN _ (Pq [] AQ3) fun _=>?_
  simp only[go_sem]
  refine AAN _ (CG b k [] (EX [])) fun _=>?_
  rcases h6:again b k [] (EX []) with _ | l'<;>simp only[go_sem,Dt]
 ·have hll:=O3 h5
  refine AAN _ hr fun _=>?_
  simp only[go_sem]
  refine AAN _ (Pq l AQ2) fun _=>?_
  simp only[go_sem]
  refine AAN _ (CG b k l (EX l)) fun _=>?_
  rcases h6:again b k l (EX l) with _ | l'<;>simp only[go_sem,Dt]
theorem mX (b:List Int) (ty k:Int) (hb:Af b) (hl:b.length≤1048576):Ctr prog 378 [.c (.sl (b.map byteC)),.c (.v (.int .i64 (ty))),.c (.v (.int .i64 (k)))] (Dt (GV b ty k)):=by
 refine CM call378 func378 ntmps378 results378 fun hw=>?_
 simp only[go_sem]
 have hg:=Gs b 0 hb hl
 rcases h1:BU b 0 with _ | ⟨n,q⟩<;>rw[h1] at hg<;>simp only[Xn] at hg
 ·have e:GV b ty k=none:=by simp only[GV,h1]
  rw[e]
  refine AAN _ hg fun _=>?_
  exact AM5
 refine AAN _ hg fun _=>?_
 simp only[go_sem]
 refine AAN _ (AQ _ _ _) fun _=>?_
 rcases h2:Ad k 1 64 with _ | _
 ·have e:GV b ty k=none:=by simp only[GV,h1]; exact bu ARH
  rw[e]
  exact APs
 simp only[go_sem,h2]
 refine AAN _ (AQ _ _ _) fun _=>?_
 rcases h3:Ad n 1 k with _ | _
 ·have e:GV b ty k=none:=by simp only[GV,h1]; exact bu ASU
  rw[e]
  simp only[go_sem,h3,Dt]
 have hk:1≤k∧k≤64:=ARH
 have hn:1≤n∧n≤k:=ASU
 have hall:GV b ty k=match Bq b ty n.toNat q with
   | none=>none
   | some (d,q)=>match unpack (b.drop q) (A8 (n-1)) k with
    | none=>none
    | some o=>match picked d o with
     | none=>none
     | some l=>if EX l=b then some l else none:=by simp only[GV,h1]; exact bG ⟨hk,hn⟩
 rw[hall]
 simp only[go_sem,h3]
 obtain⟨N,rfl⟩:=aU (show 0≤n from AQ2)
 simp only[YM]
 have hq0:=(Ig hb h1).2.2.1
 refine AAU [42] (A:=Nat×Nat×List DVal) (fun x=>[(13,.c (.v (.int .i64 (x.1)))),(12,.c (.ref 1)),(10,.c (.v (.int .i64 ((x.2.1:Int)))))]) (fun x=>[⟨66,3,[],true,true⟩,⟨66,3,x.2.2.map DVal.c,true,true⟩]) (fun x=>x.1≤N∧x.2.2.length=x.1∧(Bq b ty (N-x.1) x.2.1).map (fun y=>(x.2.2++y.1,y.2))=Bq b ty N q) (fun x=>N-x.1) (0,q,[]) (AAQ [(0,false),(1,false)] ⟨rfl,rfl,rfl,rfl,trivial⟩ rfl) ⟨au _,rfl,AQ3⟩ ?_
 rintro⟨i,p,d⟩ ⟨hi,hll,hp⟩
 dsimp only at hi hll hp
 refine AQx (fun h=>?_) fun h=>?_
 ·have hi':i<N:=by simp at h; omega
  rw[show N-i=(N-(i+1))+1 from AQ2,Bq] at hp
  have hg2:=Ny b p ty hb hl
  simp only[go_sem]
  rcases h4:GK b p ty with _ | ⟨v,p2⟩<;>rw[h4] at hg2 hp<;>simp only[kL] at hg2
  ·refine AAN _ hg2 fun _=>?_
   simp only[X6] at hp
   rw[← hp]
   exact AM5
  ·refine AAN _ hg2 fun _=>?_
   have hl2:d.length+1≤2147483648:=AQ2
   simp only[go_sem,hl2,wrap_i64 (n:=(i:Int)+1) AQ2 AQ2]
   exact⟨(i+1,p2,d ++ [v]),AAQ [(0,false),(4,false)] ⟨rfl,rfl,rfl,Nz _ _,trivial⟩ (by rw[Gw]; rfl),⟨hi',AQ5,ASB⟩,AQ4⟩
 ·have hi':i=N:=by simp at h; omega
  subst hi'
  rw[ZO,Bq] at hp
  simp only[dm,bK] at hp
  obtain⟨a1,a2,a3,_⟩:=J6 hb _ _ _ _ hq0 hp.symm
  rw[← hp]
  have q1:=Iq (k:=.i64) (n:=(p:Int)) (m:=p) AQ2
  have hw1:IntKind.i64.wrap ((i:Int)-1)=(i:Int)-1:=wrap_i64 AQ2 AQ2
  have htk:(b.drop p).take (b.length-p)=b.drop p:=aat AQ3
  have hbd:Af (b.drop p):=fun c hc=>hb c (aaM hc)
  have hu:=Xp (b.drop p) (A8 ((i:Int)-1)) k hbd AQ5
  simp only[go_sem,q1,a2,BL,aI,← cO,← cZ,htk,hw1]
  refine AAR ?_
  simp only[go_sem,q1,a2,BL,aI,← cO,← cZ,htk,hw1]
  refine ABO _ (Jl _) ?_
  simp only[go_sem,q1,a2,BL,aI,← cO,← cZ,htk,hw1]
  rcases h4:unpack (b.drop p) (A8 ((i:Int)-1)) k with _ | o<;>rw[h4] at hu<;>simp only[eP] at hu
  ·refine ABO _ hu ?_
   simp only[go_sem,q1,a2,BL,aI,← cO,← cZ,htk,hw1]
   have hr:=Xx d [] AQ3 AQ2
   rcases h5:picked d [] with _ | l<;>rw[h5] at hr<;>simp only[Dt] at hr
   ·exact AL0
   ·exact AL0
  refine ABO _ hu ?_
  have hol:=Ue h4
  simp only[go_sem,q1,a2,BL,aI,← cO,← cZ,htk,hw1]
  have hr:=Xx d o AQ2 AQ2
  rcases h5:picked d o with _ | l<;>rw[h5] at hr<;>simp only[Dt] at hr
  ·exact AL0
  have hll2:=O3 h5
  refine AAN _ hr fun _=>?_
  simp only[go_sem]
  refine AAN _ (VD l AQ2) fun _=>?_
  simp only[go_sem]
  refine AAN _ (JI (EX l) b) fun _=>?_
  rcases h6:decide (EX l=b) with _ | _
  ·have e:¬ EX l=b:=by simpa using h6
   simp only[go_sem,h6,bu e,Dt]
  ·have e:EX l=b:=by simpa using h6
   simp only[go_sem,h6,bG e,Dt]
theorem pI {b:List Int} (h:0<b.length) (ty k:Int):Yh b ty k=if b[0]=0 then Gx (b.drop 1) ty k else if b[0]=1 then EW (b.drop 1) ty k else if b[0]=2 then GV (b.drop 1) ty k else if b[0]=3 then Ep (b.drop 1) k else none:=by
 cases b with
 | nil=>simp at h
 | cons c r=>rfl
theorem uq (b:List Int) (ty k:Int) (hb:Af b) (hl:b.length≤1048576):Ctr prog 357 [.c (.sl (b.map byteC)),.c (.v (.int .i64 (ty))),.c (.v (.int .i64 (k)))] (Dt (JY b ty k)):=by
 rw[← AEp hb]
 refine CM call357 func357 ntmps357 results357 fun hw=>?_
 rcases h0:((b.length:Int)==0) with _ | _
 rotate_left
 ·have e:b = []:=by simpa using h0
  have e2:eH b ty k=none:=bG e
  rw[e2]
  simp only[go_sem,h0,Dt]
 have h0':0<b.length:=by
  exact AQM
 have hall:eH b ty k=if typeOf ((Yh b ty k).getD [])=ty then again b k ((Yh b ty k).getD []) (A_ ((Yh b ty k).getD [])) else none:=by
  rw[← ADE hb]
  exact bu fun q=>by rw[q] at h0'; simp at h0'
 rw[hall]
 simp only[go_sem,h0,AA _ h0']
 have hc:isByte b[0]:=hb _ (aj h0')
 have hc2:=hc.1
 have hc3:=hc.2
 have hw1:IntKind.i64.wrap b[0]=b[0]:=wrap_i64 AQ2 AQ2
 have hdd:=pI h0' ty k
 have a2:1≤b.length:=h0'
 have q1:=Iq (k:=.i64) (n:=(1:Int)) (m:=1) AQ2
 have htk:(b.drop 1).take (b.length-1)=b.drop 1:=aat AQ3
 have hbd:Af (b.drop 1):=fun c hc=>hb c (aaM hc)
 have hdl:(b.drop 1).length≤1048576:=AQ5
 rcases hk0:b[0]==0 with _ | _
 rotate_left
 ·rw[bG ARk] at hdd
  simp only[go_sem,q1,a2,BL,aI,← cO,← cZ,htk,hw1,hk0]
  have hr:=kN (b.drop 1) ty k hbd hdl
  rcases hd:Gx (b.drop 1) ty k with _ | l<;>rw[hd] at hr hdd<;>simp only[Dt] at hr<;>rw[hdd]
  ·refine AAN _ hr fun _=>?_
   simp only[go_sem,aaF]
   exact AF1
  ·exact AF2
 rcases hk1:b[0]==1 with _ | _
 rotate_left
 ·rw[bu ARk,bG ARs] at hdd
  simp only[go_sem,q1,a2,BL,aI,← cO,← cZ,htk,hw1,hk0,hk1]
  have hr:=mJ (b.drop 1) ty k hbd hdl
  rcases hd:EW (b.drop 1) ty k with _ | l<;>rw[hd] at hr hdd<;>simp only[Dt] at hr<;>rw[hdd]
  ·refine AAN _ hr fun _=>?_
   simp only[go_sem,aaF]
   exact AF1
  ·exact AF2
 rcases hk2:b[0]==2 with _ | _
 rotate_left
 ·rw[bu ARk,bu ARs,bG ASQ] at hdd
  simp only[go_sem,q1,a2,BL,aI,← cO,← cZ,htk,hw1,hk0,hk1,hk2]
  have hr:=mW (b.drop 1) ty k hbd hdl
  rcases hd:GV (b.drop 1) ty k with _ | l<;>rw[hd] at hr hdd<;>simp only[Dt] at hr<;>rw[hdd]
  ·refine AAN _ hr fun _=>?_
   simp only[go_sem,aaF]
   exact AF1
  ·exact AF2
 rcases hk3:b[0]==3 with _ | _
 rotate_left
 ·rw[bu ARk,bu ARs,bu ASQ,bG (by simpa using hk3)] at hdd
  simp only[go_sem,q1,a2,BL,aI,← cO,← cZ,htk,hw1,hk0,hk1,hk2,hk3]
  have hr:=kR (b.drop 1) k hbd hdl
  rcases hd:Ep (b.drop 1) k with _ | l<;>rw[hd] at hr hdd<;>simp only[Dt] at hr<;>rw[hdd]
  ·refine AAN _ hr fun _=>?_
   simp only[go_sem,aaF]
   exact AF1
  ·exact AF2
 rw[bu ARk,bu ARs,bu ASQ,bu (by simpa using hk3)] at hdd
 rw[hdd]
 simp only[go_sem,q1,a2,BL,aI,← cO,← cZ,htk,hw1,hk0,hk1,hk2,hk3,aaF]
 exact AF1
theorem uu (b:List Int) (ty k:Int) (hb:Af b) (hl:b.length≤1048576):Ctr prog 349 [.c (.sl (b.map byteC)),.c (.v (.int .i64 (ty))),.c (.v (.int .i64 (k)))] (Dt (JY b ty k)):=by
 refine CM call349 func349 ntmps349 results349 fun hw=>?_
 rcases h0:((b.length:Int)==0) with _ | _
 rotate_left
 ·have e:b = []:=by simpa using h0
  have e2:JY b ty k=none:=by rw[e,JY]; split<;>rfl
  rw[e2]
  simp only[go_sem,h0,Dt]
 have h0':0<b.length:=by
  exact AQM
 simp only[go_sem,h0,AA _ h0']
 refine AAN _ (AQ _ _ _) fun _=>?_
 rcases h1:Ad ty 1 2 with _ | _
 ·have e:JY b ty k=none:=bu ARl
  rw[e]
  simp only[go_sem,h1,Dt]
 have hty:1≤ty∧ty≤2:=ARl
 have hall:JY b ty k=match Yh b ty k with
  | none=>none
  | some l=>if typeOf l=ty∧A_ l=b then some l else none:=bG hty
 rw[hall]
 simp only[go_sem,h1,AA _ h0']
 have hc:isByte b[0]:=hb _ (aj h0')
 have hc2:=hc.1
 have hc3:=hc.2
 have hw1:IntKind.i64.wrap b[0]=b[0]:=wrap_i64 AQ2 AQ2
 have hdd:=pI h0' ty k
 have a2:1≤b.length:=h0'
 have q1:=Iq (k:=.i64) (n:=(1:Int)) (m:=1) AQ2
 have htk:(b.drop 1).take (b.length-1)=b.drop 1:=aat AQ3
 have hbd:Af (b.drop 1):=fun c hc=>hb c (aaM hc)
 have hdl:(b.drop 1).length≤1048576:=AQ5
 rcases hk0:b[0]==0 with _ | _
 rotate_left
 ·rw[bG ARk] at hdd
  simp only[go_sem,q1,a2,BL,aI,← cO,← cZ,htk,hw1,hk0]
  have hr:=kM (b.drop 1) ty k hbd hdl
  rcases hd:Gx (b.drop 1) ty k with _ | l<;>rw[hd] at hr hdd<;>simp only[Dt] at hr<;>rw[hdd]
  ·exact AL0
  ·exact AE9
 rcases hk1:b[0]==1 with _ | _
 rotate_left
 ·rw[bu ARk,bG ARs] at hdd
  simp only[go_sem,q1,a2,BL,aI,← cO,← cZ,htk,hw1,hk0,hk1]
  have hr:=mM (b.drop 1) ty k hbd hdl
  rcases hd:EW (b.drop 1) ty k with _ | l<;>rw[hd] at hr hdd<;>simp only[Dt] at hr<;>rw[hdd]
  ·exact AL0
  ·exact AE9
 rcases hk2:b[0]==2 with _ | _
 rotate_left
 ·rw[bu ARk,bu ARs,bG ASQ] at hdd
  simp only[go_sem,q1,a2,BL,aI,← cO,← cZ,htk,hw1,hk0,hk1,hk2]
  have hr:=mX (b.drop 1) ty k hbd hdl
  rcases hd:GV (b.drop 1) ty k with _ | l<;>rw[hd] at hr hdd<;>simp only[Dt] at hr<;>rw[hdd]
  ·exact AL0
  ·exact AE9
 rcases hk3:b[0]==3 with _ | _
 rotate_left
 ·rw[bu ARk,bu ARs,bu ASQ,bG (by simpa using hk3)] at hdd
  simp only[go_sem,q1,a2,BL,aI,← cO,← cZ,htk,hw1,hk0,hk1,hk2,hk3]
  have hr:=kS (b.drop 1) k hbd hdl
  rcases hd:Ep (b.drop 1) k with _ | l<;>rw[hd] at hr hdd<;>simp only[Dt] at hr<;>rw[hdd]
  ·exact AL0
  ·exact AE9
 rw[bu ARk,bu ARs,bu ASQ,bu (by simpa using hk3)] at hdd
 rw[hdd]
 simp only[go_sem,q1,a2,BL,aI,← cO,← cZ,htk,hw1,hk0,hk1,hk2,hk3,Dt]
def PW (cs:List Int) (l:List DRow) (i:Nat):Prop:=∀ h:i<l.length,(rowOk cs l[i]=true∧(0<i→l[i-1].id<l[i].id))∧l[i].id≤1000000000
theorem QO {cs:List Int} {l:List DRow} {i:Nat} (h:¬ PW cs l i):Dq cs l=false:=by
 rw[Bool.eq_false_iff]
 intro hg
 simp only[Dq,az,bC] at hg
 refine h fun hi=>⟨?_,hg.2.2 _ (aj hi)⟩
 by_cases hr:rowAt cs l i
 ·exact hr hi
 ·rw[QC hr] at hg
  cases hg.2.1
theorem pJ {cs:List Int} {l:List DRow} (h:∀ i,i<l.length→PW cs l i):Dq cs l=(E8 cs&&decide (l.length≤12)):=by
 have h1:SY cs l=true:=VU fun i hi _=>(h i hi hi).1
 have h2:decide (∀ r∈l,r.id≤1000000000)=true:=decide_eq_true fun r hr=>by
  obtain⟨i,hi,rfl⟩:=aaT hr
  exact(h i hi hi).2
 simp only[Dq,h1,h2,aF]
theorem RX (cs:List Int) (l:List DRow) (hl:l.length≤1048576):Ctr prog 358 [.c (.sl (cs.map intC)),.c (.sl (l.map DRow.c))] [.val (.c (.v (.bool (Dq cs l))))]:=by
 refine CM call358 func358 ntmps358 results358 fun hw=>?_
 simp only[go_sem]
 refine AAN _ (OZ _) fun _=>?_
 rcases hc:E8 cs with _ | _
 ·have e:Dq cs l=false:=by simp only[Dq,hc,ag]
  simp only[go_sem,hc,e]
 rcases h12:decide ((l.length:Int)>12) with _ | _
 rotate_left
 ·have e:Dq cs l=false:=by
   have:decide (l.length≤12)=false:=by simp at h12 ⊢; omega
   simp only[Dq,this,aK,ag]
  simp only[go_sem,hc,h12,e]
 have h12':decide (l.length≤12)=true:=by simp at h12 ⊢; omega
 simp only[go_sem,hc,h12]
 refine AAT 0 (A:=Nat) (fun x=>[(17,.c (.v (.int .i64 (x))))]) (fun _=>[]) (fun k=>k≤l.length∧∀ i,i<k→PW cs l i) (fun k=>l.length-k) 0 ⟨⟨rfl,rfl⟩,rfl,au _,fun i h=>AQ2⟩ ?_
 rintro k ⟨hk,hf⟩
 refine AQx (fun h=>?_) fun h=>?_
 ·have hk':k<l.length:=by simpa using h
  have hnext:PW cs l k→∀ i,i<k+1→PW cs l i:=by
   exact AQh
  simp only[go_sem,AA _ hk']
  refine AAO ?_
  simp only[go_sem,AA _ hk',hk']
  refine CY (ZI cs l[k]) ?_
  exact AF3
 ·have hk':k=l.length:=by simp at h; omega
  subst hk'
  simp only[go_sem,pJ hf,hc,h12',aF]
theorem Xz (cs:List Int) (l:List DRow) (hl:l.length≤1048576):Ctr prog 350 [.c (.sl (cs.map intC)),.c (.sl (l.map DRow.c))] [.val (.c (.v (.bool (Dq cs l))))]:=by
 refine CM call350 func350 ntmps350 results350 fun hw=>?_
 simp only[go_sem]
 refine AAT 0 (A:=Nat) (fun x=>[(5,.c (.v (.int .i64 (x))))]) (fun _=>[]) (fun k=>k≤l.length∧∀ i,i<k→PW cs l i) (fun k=>l.length-k) 0 ⟨⟨rfl,rfl⟩,rfl,au _,fun i h=>AQ2⟩ ?_
 rintro k ⟨hk,hf⟩
 refine AQx (fun h=>?_) fun h=>?_
 ·have hk':k<l.length:=by simpa using h
  have hnext:PW cs l k→∀ i,i<k+1→PW cs l i:=by
   exact AQh
  simp only[go_sem,AA _ hk']
  refine AAO ?_
  simp only[go_sem,AA _ hk',hk']
  refine CY (ZH cs l[k]) ?_
  exact AF3
 ·have hk':k=l.length:=by simp at h; omega
  subst hk'
  simp only[go_sem]
  refine AAN _ (OY _) fun _=>?_
  have h12:decide ((l.length:Int)≤12)=decide (l.length≤12):=by rw[decide_eq_decide]; omega
  rcases hc:E8 cs with _ | _<;>simp only[go_sem,pJ hf,hc,h12,ag,ah]
theorem Uf {cs:List Int} {l:List DRow} (h:Dq cs l=true):(cs.length≤3∧1≤cs.length)∧l.length≤12∧∀ r∈l,0≤r.id∧r.id≤1000000000∧fits cs r.l=true:=by
 simp only[Dq,az,bC] at h
 obtain⟨⟨h1,h2⟩,h3,h4⟩:=h
 simp only[E8,az] at h1
 refine⟨by have:=h1.2; simp[Ad] at this; omega,h2,fun r hr=>?_⟩
 obtain⟨i,hi,rfl⟩:=aaT hr
 simp only[SY,bC] at h3
 have:=(h3 i hi).1
 simp only[rowOk,az,bC] at this
 exact⟨this.1,h4 _ hr,this.2⟩
theorem AG5 (l:List DVal):(l9 l).length≤1006:=by
 have h1:=EJ ((A_ l).length:Int)
 have h2:=kV l
 simp only[l9,aN]; omega
theorem AAF {cs:List Int} {l:List DRow} (h:Dq cs l=true):Df cs l=Ro (l.map DRow.id)++(if l = [] then [] else((List.range cs.length).map fun(k:Nat)=>l9 (Dp l (k:Int))).flatten):=bG h
noncomputable def QP (l:List DRow) (k:Nat):List Int:=if l = [] then [] else((List.range k).map fun(k:Nat)=>l9 (Dp l (k:Int))).flatten
theorem AB_ (l:List DRow):QP l 0 = []:=by unfold QP; split<;>rfl
theorem Tu (cs:List Int) (l:List DRow) (hl:fitS Aw l):Ctr prog 360 [.c (.sl (cs.map intC)),.c (.sl (l.map DRow.c))] [.own 5 1 ((Df cs l).map byteC) true]:=by
 refine CM call360 func360 ntmps360 results360 fun hw=>?_
 simp only[go_sem]
 refine AAN _ (RX cs l hl.1) fun _=>?_
 rcases h1:Dq cs l with _ | _
 ·have e:Df cs l = []:=bu (by rw[h1]; simp)
  exact AKC
 obtain⟨f1,f2,f3⟩:=Uf h1
 rw[AAF h1]
 simp only[go_sem,h1]
 refine AAU [15] (A:=Nat) (fun x=>[(18,.c (.v (.int .i64 (x)))),(5,.c (.ref 0))]) (fun x=>[⟨3,1,((l.take x).map DRow.id).map intC,true,true⟩]) (fun x=>x≤l.length) (fun x=>l.length-x) 0 (AAQ [(0,false)] ⟨rfl,rfl,rfl,trivial⟩ rfl) (au _) ?_
 rintro i hi
 refine AQx (fun h=>?_) fun h=>?_
 ·have hi':i<l.length:=by simp at h; omega
  have hl2:i+1≤2147483648:=AQ2
  simp only[go_sem,AA _ hi',hl2,bJ,dO hi,wrap_i64 (n:=(i:Int)+1) AQ2 AQ2]
  exact APa
 ·have hi':i=l.length:=by simp at h; omega
  subst hi'
  simp only[go_sem,bP]
  refine AAN _ (mG [] (l.map DRow.id) AQ5 AQ3 fun n hn=>by
   obtain⟨r,hr,rfl⟩:=UT.1 hn
   exact(EF _).2 ⟨by have:=(f3 r hr).1; omega,(f3 r hr).2.1⟩) fun _=>?_
  rw[aG]
  simp only[go_sem]
  have hnl:=Yk (l.map DRow.id)
  have hnb:=EJ ((l.map DRow.id).length:Int)
  have hnl2:(Ro (l.map DRow.id)).length≤65:=by
   simp only[Ro,aN]
   rw[ae] at hnl
   omega
  have hG:∀ k,(QP l k).length≤1006*k:=fun k=>by
   unfold QP
   split
   ·simp
   ·have:=Tn (fun(k:Nat)=>l9 (Dp l (k:Int))) 1006 (List.range k) fun x _=>AG5 _
    rw[List.length_range] at this
    exact this
  have hfin:Ro (l.map DRow.id)++(if l = [] then [] else((List.range cs.length).map fun(k:Nat)=>l9 (Dp l (k:Int))).flatten)=Ro (l.map DRow.id)++QP l cs.length:=rfl
  rw[hfin]
  refine AAU [29,28,5] (A:=Nat) (fun x=>[(32,.c (.v (.int .i64 (x)))),(8,.c (.ref 0))]) (fun x=>[⟨5,1,(Ro (l.map DRow.id)++QP l x).map byteC,true,true⟩]) (fun x=>x≤cs.length) (fun x=>cs.length-x) 0 (AAQ [(1,false)] ⟨rfl,rfl,FN _,trivial⟩ (by rw[AB_,bK]; rfl)) (au _) ?_
  rintro k hk
  refine AQx (fun h=>?_) fun h=>?_
  ·have hk':k<cs.length:=by simp at h; omega
   have hGk:=hG k
   rcases h2:decide ((l.length:Int)>0) with _ | _
   ·have h2':l = []:=by
     apply bY
     simp at h2; simp[h2]
    have hs:QP l (k+1)=QP l k:=by unfold QP; rw[bG h2',bG h2']
    simp only[go_sem,h2,wrap_i64 (n:=(k:Int)+1) AQ2 AQ2]
    exact⟨k+1,AAQ [(0,false)] ⟨rfl,rfl,FN _,trivial⟩ (by rw[hs]; rfl),hk',AQ2⟩
   ·have h2':l≠ []:=by rintro rfl; simp at h2
    have hcl:(Dp l (k:Int)).length≤l.length:=aaE _ _
    have hel:=kV (Dp l (k:Int))
    have hs:QP l (k+1)=QP l k++(FX (A_ (Dp l (k:Int))).length++A_ (Dp l (k:Int))):=by
     unfold QP
     rw[bu h2',bu h2',List.range_succ]
     simp only[bQ,aaS,TA,df,lL,aaU,bK,l9]
    simp only[go_sem,h2]
    refine AAN _ (WI l (k:Int) hl.big) fun _=>?_
    simp only[go_sem]
    refine AAN _ (Ez (Dp l (k:Int)) AQ2) fun _=>?_
    simp only[go_sem]
    refine AAN _ (Gu _ _ ARh) fun _=>?_
    rw[Kw ((EF _).2 ⟨AQ2,AQ2⟩)]
    have hnb2:=EJ ((A_ (Dp l (k:Int))).length:Int)
    have hl3:(Ro (l.map DRow.id)).length+(QP l k).length+(FX (A_ (Dp l (k:Int))).length).length+(A_ (Dp l (k:Int))).length≤2147483648:=AQ2
    simp only[go_sem,hl3,Gg,Tj,wrap_i64 (n:=(k:Int)+1) AQ2 AQ2]
    exact⟨k+1,AAQ [(4,false)] ⟨rfl,rfl,FN _,trivial⟩ (by rw[hs]; simp only[aZ]; rfl),hk',AQ2⟩
  ·have hk':k=cs.length:=by simp at h; omega
   subst hk'
   simp only[go_sem]
   try exact AHA
end Go.Proofs.YthmifbbmgnhddaaGreat
