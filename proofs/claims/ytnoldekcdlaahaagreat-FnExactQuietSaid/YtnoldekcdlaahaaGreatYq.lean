/- A part. -/
import Derived.Test.YtnoldekcdlaahaaGreatYn
import Derived.Test.YtnoldekcdlaahaaGreatAa
set_option linter.unusedSimpArgs false
set_option linter.unusedVariables false
set_option maxHeartbeats 2000000
set_option maxRecDepth 10000
open Go.Proofs.Tryz
namespace Go.Proofs.YtnoldekcdlaahaaGreat
open Go.Vm
theorem je (b:List Int) (ty k:Int) (hb:Ad b) (hl:b.length≤1048576):Ctr prog 393 [.c (.sl (b.map byteC)),.c (.v (.int .i64 (ty))),.c (.v (.int .i64 (k)))] (Dn (Fq b ty k)):=by
 rw[← iG hb]
 refine CM call393 func393 ntmps393 results393 fun hw=>?_
 simp only[go_sem]
 have hg:=GN b 0 hb hl
 rcases h1:BX b 0 with _ | ⟨n,q⟩<;>rw[h1] at hg<;>simp only[Vw] at hg
 ·have e:J_ b ty k=none:=by simp only[J_,h1]
  rw[e]
  refine AAT _ hg fun _=>?_
  exact ALc
 refine AAT _ hg fun _=>?_
 simp only[go_sem]
 refine AAT _ (AL _ _ _) fun _=>?_
 rcases h2:Aa n 1 64 with _ | _
 ·have e:J_ b ty k=none:=by simp only[J_,h1]; exact aZ AOr
  rw[e]
  exact ANW
 have h2':1≤n∧n≤64:=AOr
 have hall:J_ b ty k=match Bz b ty n.toNat q with
   | none=>none
   | some (d,q)=>match unpack (b.drop q) (Aq (n-1)) k with
    | none=>none
    | some o=>again b k ((picked d o).getD []) (EZ ((picked d o).getD [])):=by simp only[J_,h1]; exact bu h2'
 rw[hall]
 have hgv:=V5 b q ty n hb hl h2'.2
 simp only[go_sem,h2]
 rcases h3:Bz b ty n.toNat q with _ | ⟨d,q2⟩<;>rw[h3] at hgv<;>simp only[AEc] at hgv
 ·refine AAT _ hgv fun _=>?_
  exact ALc
 refine AAT _ hgv fun _=>?_
 have hq0:=(IA hb h1).2.2.1
 obtain⟨a1,a2,a3,_⟩:=JX hb _ _ _ _ hq0 h3
 have q1:=IP (k:=.i64) (n:=(q2:Int)) (m:=q2) AOh
 have hw1:IntKind.i64.wrap (n-1)=n-1:=wrap_i64 AOh AOh
 have htk:(b.drop q2).take (b.length-q2)=b.drop q2:=aaz AOi
 have hbd:Ad (b.drop q2):=fun c hc=>hb c (aaG hc)
 have hu:=Vx (b.drop q2) (Aq (n-1)) k hbd AOj
 simp only[go_sem,q1,a2,BJ,aT,← bY,← bV,htk,hw1]
 refine ABU ?_
 simp only[go_sem,q1,a2,BJ,aT,← bY,← bV,htk,hw1]
 refine ACJ _ (LH _) ?_
 simp only[go_sem,q1,a2,BJ,aT,← bY,← bV,htk,hw1]
 rcases h4:unpack (b.drop q2) (Aq (n-1)) k with _ | o<;>rw[h4] at hu<;>simp only[ZU] at hu
 ·refine ACJ _ hu ?_
  simp only[go_sem,q1,a2,BJ,aT,← bY,← bV,htk,hw1]
  exact ALc
 refine ACJ _ hu ?_
 have hol:=TF h4
 simp only[go_sem,q1,a2,BJ,aT,← bY,← bV,htk,hw1]
 have hr:=qN d o AOh AOh
 rcases h5:picked d o with _ | l<;>rw[h5] at hr<;>simp only[Dn] at hr
 ·refine AAT _ hr fun _=>?_
  simp only[go_sem,xY]
  refine AAT _ (Ov [] AOi) fun _=>?_
  simp only[go_sem]
  refine AAT _ (CJ b k [] (EZ [])) fun _=>?_
  rcases h6:again b k [] (EZ []) with _ | l'<;>simp only[go_sem,Dn]
 ·have hll:=Nv h5
  refine AAT _ hr fun _=>?_
  simp only[go_sem]
  refine AAT _ (Ov l AOh) fun _=>?_
  simp only[go_sem]
  refine AAT _ (CJ b k l (EZ l)) fun _=>?_
  rcases h6:again b k l (EZ l) with _ | l'<;>simp only[go_sem,Dn]
theorem jf (b:List Int) (ty k:Int) (hb:Ad b) (hl:b.length≤1048576):Ctr prog 384 [.c (.sl (b.map byteC)),.c (.v (.int .i64 (ty))),.c (.v (.int .i64 (k)))] (Dn (Fq b ty k)):=by
 refine CM call384 func384 ntmps384 results384 fun hw=>?_
 simp only[go_sem]
 have hg:=GM b 0 hb hl
 rcases h1:BX b 0 with _ | ⟨n,q⟩<;>rw[h1] at hg<;>simp only[Vw] at hg
 ·have e:Fq b ty k=none:=by simp only[Fq,h1]
  rw[e]
  refine AAT _ hg fun _=>?_
  exact ALc
 refine AAT _ hg fun _=>?_
 simp only[go_sem]
 refine AAT _ (AP _ _ _) fun _=>?_
 rcases h2:Aa k 1 64 with _ | _
 ·have e:Fq b ty k=none:=by simp only[Fq,h1]; exact aZ AOr
  rw[e]
  exact ANW
 simp only[go_sem,h2]
 refine AAT _ (AP _ _ _) fun _=>?_
 rcases h3:Aa n 1 k with _ | _
 ·have e:Fq b ty k=none:=by simp only[Fq,h1]; exact aZ AP4
  rw[e]
  simp only[go_sem,h3,Dn]
 have hk:1≤k∧k≤64:=AOr
 have hn:1≤n∧n≤k:=AP4
 have hall:Fq b ty k=match Bz b ty n.toNat q with
   | none=>none
   | some (d,q)=>match unpack (b.drop q) (Aq (n-1)) k with
    | none=>none
    | some o=>match picked d o with
     | none=>none
     | some l=>if EZ l=b then some l else none:=by simp only[Fq,h1]; exact bu ⟨hk,hn⟩
 rw[hall]
 simp only[go_sem,h3]
 obtain⟨N,rfl⟩:=aO (show 0≤n from AOh)
 simp only[bH]
 have hq0:=(IA hb h1).2.2.1
 refine AB6 [42] (A:=Nat×Nat×List DVal) (fun x=>[(13,.c (.v (.int .i64 (x.1)))),(12,.c (.ref 1)),(10,.c (.v (.int .i64 ((x.2.1:Int)))))]) (fun x=>[⟨64,3,[],true,true⟩,⟨64,3,x.2.2.map DVal.c,true,true⟩]) (fun x=>x.1≤N∧x.2.2.length=x.1∧(Bz b ty (N-x.1) x.2.1).map (fun y=>(x.2.2++y.1,y.2))=Bz b ty N q) (fun x=>N-x.1) (0,q,[]) (AB3 [(0,false),(1,false)] ⟨rfl,rfl,rfl,rfl,trivial⟩ rfl) ⟨az _,rfl,AOi⟩ ?_
 rintro⟨i,p,d⟩ ⟨hi,hll,hp⟩
 dsimp only at hi hll hp
 refine AOb (fun h=>?_) fun h=>?_
 ·have hi':i<N:=by simp at h; omega
  rw[show N-i=(N-(i+1))+1 from AOh,Bz] at hp
  have hg2:=Md b p ty hb hl
  simp only[go_sem]
  rcases h4:Fe b p ty with _ | ⟨v,p2⟩<;>rw[h4] at hg2 hp<;>simp only[gV] at hg2
  ·refine AAT _ hg2 fun _=>?_
   simp only[WY] at hp
   rw[← hp]
   exact ALc
  ·refine AAT _ hg2 fun _=>?_
   have hl2:d.length+1≤2147483648:=AOh
   simp only[go_sem,hl2,wrap_i64 (n:=(i:Int)+1) AOh AOh]
   exact⟨(i+1,p2,d ++ [v]),AB3 [(0,false),(4,false)] ⟨rfl,rfl,rfl,Me _ _,trivial⟩ (by rw[GV]; rfl),⟨hi',AOj,APq⟩,AOl⟩
 ·have hi':i=N:=by simp at h; omega
  subst hi'
  rw[jP,Bz] at hp
  simp only[bW,bI] at hp
  obtain⟨a1,a2,a3,_⟩:=JX hb _ _ _ _ hq0 hp.symm
  rw[← hp]
  have q1:=IP (k:=.i64) (n:=(p:Int)) (m:=p) AOh
  have hw1:IntKind.i64.wrap ((i:Int)-1)=(i:Int)-1:=wrap_i64 AOh AOh
  have htk:(b.drop p).take (b.length-p)=b.drop p:=aaz AOi
  have hbd:Ad (b.drop p):=fun c hc=>hb c (aaG hc)
  have hu:=Vy (b.drop p) (Aq ((i:Int)-1)) k hbd AOj
  simp only[go_sem,q1,a2,BJ,aT,← bY,← bV,htk,hw1]
  refine ABU ?_
  simp only[go_sem,q1,a2,BJ,aT,← bY,← bV,htk,hw1]
  refine ACJ _ (JK _) ?_
  simp only[go_sem,q1,a2,BJ,aT,← bY,← bV,htk,hw1]
  rcases h4:unpack (b.drop p) (Aq ((i:Int)-1)) k with _ | o<;>rw[h4] at hu<;>simp only[ZU] at hu
  ·refine ACJ _ hu ?_
   simp only[go_sem,q1,a2,BJ,aT,← bY,← bV,htk,hw1]
   have hr:=V8 d [] AOi AOh
   rcases h5:picked d [] with _ | l<;>rw[h5] at hr<;>simp only[Dn] at hr
   ·exact AKY
   ·exact AKY
  refine ACJ _ hu ?_
  have hol:=TF h4
  simp only[go_sem,q1,a2,BJ,aT,← bY,← bV,htk,hw1]
  have hr:=V8 d o AOh AOh
  rcases h5:picked d o with _ | l<;>rw[h5] at hr<;>simp only[Dn] at hr
  ·exact AKY
  have hll2:=Nv h5
  refine AAT _ hr fun _=>?_
  simp only[go_sem]
  refine AAT _ (Tv l AOh) fun _=>?_
  simp only[go_sem]
  refine AAT _ (Il (EZ l) b) fun _=>?_
  rcases h6:decide (EZ l=b) with _ | _
  ·have e:¬ EZ l=b:=by simpa using h6
   simp only[go_sem,h6,aZ e,Dn]
  ·have e:EZ l=b:=by simpa using h6
   simp only[go_sem,h6,bu e,Dn]
theorem lU {b:List Int} (h:0<b.length) (ty k:Int):XX b ty k=if b[0]=0 then GY (b.drop 1) ty k else if b[0]=1 then EY (b.drop 1) ty k else if b[0]=2 then Fq (b.drop 1) ty k else if b[0]=3 then Eh (b.drop 1) k else none:=by
 cases b with
 | nil=>simp at h
 | cons c r=>rfl
theorem qP (b:List Int) (ty k:Int) (hb:Ad b) (hl:b.length≤1048576):Ctr prog 358 [.c (.sl (b.map byteC)),.c (.v (.int .i64 (ty))),.c (.v (.int .i64 (k)))] (Dn (I_ b ty k)):=by
 rw[← ACX hb]
 refine CM call358 func358 ntmps358 results358 fun hw=>?_
 rcases h0:((b.length:Int)==0) with _ | _
 rotate_left
 ·have e:b = []:=by simpa using h0
  have e2:ZT b ty k=none:=bu e
  rw[e2]
  simp only[go_sem,h0,Dn]
 have h0':0<b.length:=by
  exact AN4
 have hall:ZT b ty k=if typeOf ((XX b ty k).getD [])=ty then again b k ((XX b ty k).getD []) (Aw ((XX b ty k).getD [])) else none:=by
  rw[← ABF hb]
  exact aZ fun q=>by rw[q] at h0'; simp at h0'
 rw[hall]
 simp only[go_sem,h0,AA _ h0']
 have hc:isByte b[0]:=hb _ (ax h0')
 have hc2:=hc.1
 have hc3:=hc.2
 have hw1:IntKind.i64.wrap b[0]=b[0]:=wrap_i64 AOh AOh
 have hdd:=lU h0' ty k
 have a2:1≤b.length:=h0'
 have q1:=IP (k:=.i64) (n:=(1:Int)) (m:=1) AOh
 have htk:(b.drop 1).take (b.length-1)=b.drop 1:=aaz AOi
 have hbd:Ad (b.drop 1):=fun c hc=>hb c (aaG hc)
 have hdl:(b.drop 1).length≤1048576:=AOj
 rcases hk0:b[0]==0 with _ | _
 rotate_left
 ·rw[bu APQ] at hdd
  simp only[go_sem,q1,a2,BJ,aT,← bY,← bV,htk,hw1,hk0]
  have hr:=gX (b.drop 1) ty k hbd hdl
  rcases hd:GY (b.drop 1) ty k with _ | l<;>rw[hd] at hr hdd<;>simp only[Dn] at hr<;>rw[hdd]
  ·refine AAT _ hr fun _=>?_
   simp only[go_sem,xY]
   exact AGa
  ·exact AGb
 rcases hk1:b[0]==1 with _ | _
 rotate_left
 ·rw[aZ APQ,bu APY] at hdd
  simp only[go_sem,q1,a2,BJ,aT,← bY,← bV,htk,hw1,hk0,hk1]
  have hr:=jX (b.drop 1) ty k hbd hdl
  rcases hd:EY (b.drop 1) ty k with _ | l<;>rw[hd] at hr hdd<;>simp only[Dn] at hr<;>rw[hdd]
  ·refine AAT _ hr fun _=>?_
   simp only[go_sem,xY]
   exact AGa
  ·exact AGb
 rcases hk2:b[0]==2 with _ | _
 rotate_left
 ·rw[aZ APQ,aZ APY,bu APz] at hdd
  simp only[go_sem,q1,a2,BJ,aT,← bY,← bV,htk,hw1,hk0,hk1,hk2]
  have hr:=je (b.drop 1) ty k hbd hdl
  rcases hd:Fq (b.drop 1) ty k with _ | l<;>rw[hd] at hr hdd<;>simp only[Dn] at hr<;>rw[hdd]
  ·refine AAT _ hr fun _=>?_
   simp only[go_sem,xY]
   exact AGa
  ·exact AGb
 rcases hk3:b[0]==3 with _ | _
 rotate_left
 ·rw[aZ APQ,aZ APY,aZ APz,bu (by simpa using hk3)] at hdd
  simp only[go_sem,q1,a2,BJ,aT,← bY,← bV,htk,hw1,hk0,hk1,hk2,hk3]
  have hr:=gm (b.drop 1) k hbd hdl
  rcases hd:Eh (b.drop 1) k with _ | l<;>rw[hd] at hr hdd<;>simp only[Dn] at hr<;>rw[hdd]
  ·refine AAT _ hr fun _=>?_
   simp only[go_sem,xY]
   exact AGa
  ·exact AGb
 rw[aZ APQ,aZ APY,aZ APz,aZ (by simpa using hk3)] at hdd
 rw[hdd]
 simp only[go_sem,q1,a2,BJ,aT,← bY,← bV,htk,hw1,hk0,hk1,hk2,hk3,xY]
 exact AGa
theorem qQ (b:List Int) (ty k:Int) (hb:Ad b) (hl:b.length≤1048576):Ctr prog 348 [.c (.sl (b.map byteC)),.c (.v (.int .i64 (ty))),.c (.v (.int .i64 (k)))] (Dn (I_ b ty k)):=by
 refine CM call348 func348 ntmps348 results348 fun hw=>?_
 rcases h0:((b.length:Int)==0) with _ | _
 rotate_left
 ·have e:b = []:=by simpa using h0
  have e2:I_ b ty k=none:=by rw[e,I_]; split<;>rfl
  rw[e2]
  simp only[go_sem,h0,Dn]
 have h0':0<b.length:=by
  exact AN4
 simp only[go_sem,h0,AA _ h0']
 refine AAT _ (AP _ _ _) fun _=>?_
 rcases h1:Aa ty 1 2 with _ | _
 ·have e:I_ b ty k=none:=aZ APH
  rw[e]
  simp only[go_sem,h1,Dn]
 have hty:1≤ty∧ty≤2:=APH
 have hall:I_ b ty k=match XX b ty k with
  | none=>none
  | some l=>if typeOf l=ty∧Aw l=b then some l else none:=bu hty
 rw[hall]
 simp only[go_sem,h1,AA _ h0']
 have hc:isByte b[0]:=hb _ (ax h0')
 have hc2:=hc.1
 have hc3:=hc.2
 have hw1:IntKind.i64.wrap b[0]=b[0]:=wrap_i64 AOh AOh
 have hdd:=lU h0' ty k
 have a2:1≤b.length:=h0'
 have q1:=IP (k:=.i64) (n:=(1:Int)) (m:=1) AOh
 have htk:(b.drop 1).take (b.length-1)=b.drop 1:=aaz AOi
 have hbd:Ad (b.drop 1):=fun c hc=>hb c (aaG hc)
 have hdl:(b.drop 1).length≤1048576:=AOj
 rcases hk0:b[0]==0 with _ | _
 rotate_left
 ·rw[bu APQ] at hdd
  simp only[go_sem,q1,a2,BJ,aT,← bY,← bV,htk,hw1,hk0]
  have hr:=gW (b.drop 1) ty k hbd hdl
  rcases hd:GY (b.drop 1) ty k with _ | l<;>rw[hd] at hr hdd<;>simp only[Dn] at hr<;>rw[hdd]
  ·exact AKY
  ·exact AFU
 rcases hk1:b[0]==1 with _ | _
 rotate_left
 ·rw[aZ APQ,bu APY] at hdd
  simp only[go_sem,q1,a2,BJ,aT,← bY,← bV,htk,hw1,hk0,hk1]
  have hr:=jY (b.drop 1) ty k hbd hdl
  rcases hd:EY (b.drop 1) ty k with _ | l<;>rw[hd] at hr hdd<;>simp only[Dn] at hr<;>rw[hdd]
  ·exact AKY
  ·exact AFU
 rcases hk2:b[0]==2 with _ | _
 rotate_left
 ·rw[aZ APQ,aZ APY,bu APz] at hdd
  simp only[go_sem,q1,a2,BJ,aT,← bY,← bV,htk,hw1,hk0,hk1,hk2]
  have hr:=jf (b.drop 1) ty k hbd hdl
  rcases hd:Fq (b.drop 1) ty k with _ | l<;>rw[hd] at hr hdd<;>simp only[Dn] at hr<;>rw[hdd]
  ·exact AKY
  ·exact AFU
 rcases hk3:b[0]==3 with _ | _
 rotate_left
 ·rw[aZ APQ,aZ APY,aZ APz,bu (by simpa using hk3)] at hdd
  simp only[go_sem,q1,a2,BJ,aT,← bY,← bV,htk,hw1,hk0,hk1,hk2,hk3]
  have hr:=gp (b.drop 1) k hbd hdl
  rcases hd:Eh (b.drop 1) k with _ | l<;>rw[hd] at hr hdd<;>simp only[Dn] at hr<;>rw[hdd]
  ·exact AKY
  ·exact AFU
 rw[aZ APQ,aZ APY,aZ APz,aZ (by simpa using hk3)] at hdd
 rw[hdd]
 simp only[go_sem,q1,a2,BJ,aT,← bY,← bV,htk,hw1,hk0,hk1,hk2,hk3,Dn]
def OW (cs:List Int) (l:List DRow) (i:Nat):Prop:=∀ h:i<l.length,(rowOk cs l[i]=true∧(0<i→l[i-1].id<l[i].id))∧l[i].id≤1000000000
theorem PO {cs:List Int} {l:List DRow} {i:Nat} (h:¬ OW cs l i):Dl cs l=false:=by
 rw[abr]
 intro hg
 simp only[Dl,ay,bf] at hg
 refine h fun hi=>⟨?_,hg.2.2 _ (ax hi)⟩
 by_cases hr:rowAt cs l i
 ·exact hr hi
 ·rw[ABb hr] at hg
  cases hg.2.1
theorem lV {cs:List Int} {l:List DRow} (h:∀ i,i<l.length→OW cs l i):Dl cs l=(FN cs&&decide (l.length≤12)):=by
 have h1:UD cs l=true:=xg fun i hi _=>(h i hi hi).1
 have h2:decide (∀ r∈l,r.id≤1000000000)=true:=decide_eq_true fun r hr=>by
  obtain⟨i,hi,rfl⟩:=aay hr
  exact(h i hi hi).2
 simp only[Dl,h1,h2,aS]
theorem QM (cs:List Int) (l:List DRow) (hl:l.length≤1048576):Ctr prog 277 [.c (.sl (cs.map intC)),.c (.sl (l.map DRow.c))] [.val (.c (.v (.bool (Dl cs l))))]:=by
 refine CM call277 func277 ntmps277 results277 fun hw=>?_
 simp only[go_sem]
 refine AAT _ (Ph _) fun _=>?_
 rcases hc:FN cs with _ | _
 ·have e:Dl cs l=false:=by simp only[Dl,hc,ai]
  simp only[go_sem,hc,e]
 rcases h12:decide ((l.length:Int)>12) with _ | _
 rotate_left
 ·have e:Dl cs l=false:=by
   have:decide (l.length≤12)=false:=by simp at h12 ⊢; omega
   simp only[Dl,this,aH,ai]
  simp only[go_sem,hc,h12,e]
 have h12':decide (l.length≤12)=true:=by simp at h12 ⊢; omega
 simp only[go_sem,hc,h12]
 refine AB4 0 (A:=Nat) (fun x=>[(17,.c (.v (.int .i64 (x))))]) (fun _=>[]) (fun k=>k≤l.length∧∀ i,i<k→OW cs l i) (fun k=>l.length-k) 0 ⟨⟨rfl,rfl⟩,rfl,az _,fun i h=>AOh⟩ ?_
 rintro k ⟨hk,hf⟩
 refine AOb (fun h=>?_) fun h=>?_
 ·have hk':k<l.length:=by simpa using h
  have hnext:OW cs l k→∀ i,i<k+1→OW cs l i:=by
   exact AOP
  simp only[go_sem,AA _ hk']
  refine AAm ?_
  simp only[go_sem,AA _ hk',hk']
  refine CY (rE cs l[k]) ?_
  exact AGc
 ·have hk':k=l.length:=by simp at h; omega
  subst hk'
  simp only[go_sem,lV hf,hc,h12',aS]
theorem V_ (cs:List Int) (l:List DRow) (hl:l.length≤1048576):Ctr prog 269 [.c (.sl (cs.map intC)),.c (.sl (l.map DRow.c))] [.val (.c (.v (.bool (Dl cs l))))]:=by
 refine CM call269 func269 ntmps269 results269 fun hw=>?_
 simp only[go_sem]
 refine AB4 0 (A:=Nat) (fun x=>[(5,.c (.v (.int .i64 (x))))]) (fun _=>[]) (fun k=>k≤l.length∧∀ i,i<k→OW cs l i) (fun k=>l.length-k) 0 ⟨⟨rfl,rfl⟩,rfl,az _,fun i h=>AOh⟩ ?_
 rintro k ⟨hk,hf⟩
 refine AOb (fun h=>?_) fun h=>?_
 ·have hk':k<l.length:=by simpa using h
  have hnext:OW cs l k→∀ i,i<k+1→OW cs l i:=by
   exact AOP
  simp only[go_sem,AA _ hk']
  refine AAm ?_
  simp only[go_sem,AA _ hk',hk']
  refine CY (rD cs l[k]) ?_
  exact AGc
 ·have hk':k=l.length:=by simp at h; omega
  subst hk'
  simp only[go_sem]
  refine AAT _ (Pg _) fun _=>?_
  have h12:decide ((l.length:Int)≤12)=decide (l.length≤12):=by rw[decide_eq_decide]; omega
  rcases hc:FN cs with _ | _<;>simp only[go_sem,lV hf,hc,h12,ai,aj]
theorem TI {cs:List Int} {l:List DRow} (h:Dl cs l=true):(cs.length≤3∧1≤cs.length)∧l.length≤12∧∀ r∈l,0≤r.id∧r.id≤1000000000∧fits cs r.l=true:=by
 simp only[Dl,ay,bf] at h
 obtain⟨⟨h1,h2⟩,h3,h4⟩:=h
 simp only[FN,ay] at h1
 refine⟨by have:=h1.2; simp[Aa] at this; omega,h2,fun r hr=>?_⟩
 obtain⟨i,hi,rfl⟩:=aay hr
 simp only[UD,bf] at h3
 have:=(h3 i hi).1
 simp only[rowOk,ay,bf] at this
 exact⟨this.1,h4 _ hr,this.2⟩
theorem AEi (l:List DVal):(jS l).length≤1006:=by
 have h1:=EI ((Aw l).length:Int)
 have h2:=gy l
 simp only[jS,bn]; omega
theorem wW {cs:List Int} {l:List DRow} (h:Dl cs l=true):Dc cs l=Qe (l.map DRow.id)++(if l = [] then [] else((List.range cs.length).map fun(k:Nat)=>jS (MI l (k:Int))).flatten):=bu h
noncomputable def PP (l:List DRow) (k:Nat):List Int:=if l = [] then [] else((List.range k).map fun(k:Nat)=>jS (MI l (k:Int))).flatten
theorem AAD (l:List DRow):PP l 0 = []:=by unfold PP; split<;>rfl
theorem Rh (cs:List Int) (l:List DRow) (hl:fitS Gu l):Ctr prog 279 [.c (.sl (cs.map intC)),.c (.sl (l.map DRow.c))] [.own 5 1 ((Dc cs l).map byteC) true]:=by
 refine CM call279 func279 ntmps279 results279 fun hw=>?_
 simp only[go_sem]
 refine AAT _ (QM cs l hl.1) fun _=>?_
 rcases h1:Dl cs l with _ | _
 ·have e:Dc cs l = []:=aZ (by rw[h1]; simp)
  exact AJY
 obtain⟨f1,f2,f3⟩:=TI h1
 rw[wW h1]
 simp only[go_sem,h1]
 refine AB6 [15] (A:=Nat) (fun x=>[(18,.c (.v (.int .i64 (x)))),(5,.c (.ref 0))]) (fun x=>[⟨3,1,((l.take x).map DRow.id).map intC,true,true⟩]) (fun x=>x≤l.length) (fun x=>l.length-x) 0 (AB3 [(0,false)] ⟨rfl,rfl,rfl,trivial⟩ rfl) (az _) ?_
 rintro i hi
 refine AOb (fun h=>?_) fun h=>?_
 ·have hi':i<l.length:=by simp at h; omega
  have hl2:i+1≤2147483648:=AOh
  simp only[go_sem,AA _ hi',hl2,bz,dO hi,wrap_i64 (n:=(i:Int)+1) AOh AOh]
  exact ANE
 ·have hi':i=l.length:=by simp at h; omega
  subst hi'
  simp only[go_sem,bD]
  refine AAT _ (jW [] (l.map DRow.id) AOj AOi fun n hn=>by
   obtain⟨r,hr,rfl⟩:=kN.1 hn
   exact(ED _).2 ⟨by have:=(f3 r hr).1; omega,(f3 r hr).2.1⟩) fun _=>?_
  rw[aN]
  simp only[go_sem]
  have hnl:=Xb (l.map DRow.id)
  have hnb:=EI ((l.map DRow.id).length:Int)
  have hnl2:(Qe (l.map DRow.id)).length≤65:=by
   simp only[Qe,bn]
   rw[ae] at hnl
   omega
  have hG:∀ k,(PP l k).length≤1006*k:=fun k=>by
   unfold PP
   split
   ·simp
   ·have:=RY (fun(k:Nat)=>jS (MI l (k:Int))) 1006 (List.range k) fun x _=>AEi _
    rw[List.length_range] at this
    exact this
  have hfin:Qe (l.map DRow.id)++(if l = [] then [] else((List.range cs.length).map fun(k:Nat)=>jS (MI l (k:Int))).flatten)=Qe (l.map DRow.id)++PP l cs.length:=rfl
  rw[hfin]
  refine AB6 [29,28,5] (A:=Nat) (fun x=>[(32,.c (.v (.int .i64 (x)))),(8,.c (.ref 0))]) (fun x=>[⟨5,1,(Qe (l.map DRow.id)++PP l x).map byteC,true,true⟩]) (fun x=>x≤cs.length) (fun x=>cs.length-x) 0 (AB3 [(1,false)] ⟨rfl,rfl,E5 _,trivial⟩ (by rw[AAD,bI]; rfl)) (az _) ?_
  rintro k hk
  refine AOb (fun h=>?_) fun h=>?_
  ·have hk':k<cs.length:=by simp at h; omega
   have hGk:=hG k
   rcases h2:decide ((l.length:Int)>0) with _ | _
   ·have h2':l = []:=by
     apply aai
     simp at h2; simp[h2]
    have hs:PP l (k+1)=PP l k:=by unfold PP; rw[bu h2',bu h2']
    simp only[go_sem,h2,wrap_i64 (n:=(k:Int)+1) AOh AOh]
    exact⟨k+1,AB3 [(0,false)] ⟨rfl,rfl,E5 _,trivial⟩ (by rw[hs]; rfl),hk',AOh⟩
   ·have h2':l≠ []:=by rintro rfl; simp at h2
    have hcl:(MI l (k:Int)).length≤l.length:=List.length_filterMap_le _ _
    have hel:=gy (MI l (k:Int))
    have hs:PP l (k+1)=PP l k++(FH (Aw (MI l (k:Int))).length++Aw (MI l (k:Int))):=by
     unfold PP
     rw[aZ h2',aZ h2',List.range_succ]
     simp only[XC,aaF,YG,cu,dm,aaH,bI,jS]
    simp only[go_sem,h2]
    refine AAT _ (qV l (k:Int) hl.big) fun _=>?_
    simp only[go_sem]
    refine AAT _ (Eo (MI l (k:Int)) AOh) fun _=>?_
    simp only[go_sem]
    refine AAT _ (GR _ _ APK) fun _=>?_
    rw[J6 ((ED _).2 ⟨AOh,AOh⟩)]
    have hnb2:=EI ((Aw (MI l (k:Int))).length:Int)
    have hl3:(Qe (l.map DRow.id)).length+(PP l k).length+(FH (Aw (MI l (k:Int))).length).length+(Aw (MI l (k:Int))).length≤2147483648:=AOh
    simp only[go_sem,hl3,F5,RV,wrap_i64 (n:=(k:Int)+1) AOh AOh]
    exact⟨k+1,AB3 [(4,false)] ⟨rfl,rfl,E5 _,trivial⟩ (by rw[hs]; simp only[bM]; rfl),hk',AOh⟩
  ·have hk':k=cs.length:=by simp at h; omega
   subst hk'
   simp only[go_sem]
   try exact AIj
end Go.Proofs.YtnoldekcdlaahaaGreat
