/- A part. -/
import Derived.Test.YtnoldekcdlaahaaGreatPYf
import Derived.Test.YtnoldekcdlaahaaGreatPYt
set_option linter.unusedSimpArgs false
set_option linter.unusedVariables false
set_option maxHeartbeats 2000000
set_option maxRecDepth 10000
open Go.Proofs.Tryz
namespace Go.Proofs.YtnoldekcdlaahaaGreat
open Go.Vm
theorem AHm:Gq []=true:=rfl
attribute [go_sem] AHm FI Pq CX CQ AX DD AHj
theorem NV:∀ {b:List Int},jc (b.map byteC)→Ae b
 | [],_=>by simp[Ae]
 | c::b,h=>by
  simp only[YR,jc,Oa,WZ,sS] at h
  intro x hx
  rcases SK.1 hx with rfl | hx
  ·have:=h.1.1
   simp only[QN,Lit.wf,ay,aZ] at this
   simp[IntKind.min,IntKind.max,IntKind.bits,IntKind.signed] at this
   unfold isByte
   omega
  ·exact NV h.2 x hx
theorem ABz {a b:List Int} (ha:Ae a) (hb:Ae b):(strOfNums a=strOfNums b)↔a=b:=by
 constructor
 ·intro h
  rw[← o8 ha,← o8 hb,h]
 ·rintro rfl; rfl
theorem Dk {l:List DVal} (h:typeOf l≠0):1≤l.length∧l.length≤64∧∀ v∈l,BQ v=true∧v.ty=typeOf l:=by
 cases l with
 | nil=>exact absurd rfl h
 | cons v r =>
  have e:typeOf (v::r)=if(v::r).length≤64∧∀ x∈(v::r),BQ x=true∧x.ty=v.ty then v.ty else 0:=rfl
  rw[e] at h ⊢
  split at h
  ·rename_i h1
   rw[bF h1]
   exact⟨AOR,h1.1,h1.2⟩
  ·exact absurd rfl h
theorem EN (n:Int):(FO n).length≤5:=Yx 4 _
theorem Vk {v:DVal} (h:BQ v=true):(Vq v).length≤7:=by
 unfold Vq
 split
 ·have:=EN v.n; omega
 ·rename_i h3
  have:v.s.size≤6:=by
   simp only[BQ,bz h3,ay,aZ] at h
   exact h.1.2
  simp[AED]; omega
theorem Kq:∀ {l:List DVal},(∀ v∈l,BQ v=true)→(Jy l).length≤7*l.length
 | [],_=>by simp[Jy]
 | v::l,h=>by
  have h1:=Vk (h v AOR)
  have h2:=Kq fun x hx=>h x (abg v hx)
  simp only[Jy,YR,df,bu,aI] at h1 h2 ⊢
  omega
theorem Sr {v:DVal} (h:BQ v=true):iq v=Vq v:=by simp only[iq,h,bf]
theorem Jv {n:Int} (h:ER n=true):YZ n=FO n:=by simp only[YZ,h,bf]
theorem Py {l:List DVal} {i:Nat} (h:i<l.length):Jy (l.take (i+1))=Jy (l.take i)++Vq l[i]:=by
 rw[aas h]
 simp only[Jy,WU,aaM,YR,di,df,aaH,bQ]
theorem yf {l:List Int} {i:Nat} (h:i<l.length):((l.take (i+1)).map FO).flatten=((l.take i).map FO).flatten++FO l[i]:=by
 rw[aas h]
 simp only[WU,aaM,YR,di,df,aaH,bQ]
theorem XG:∀ l:List Int,((l.map FO).flatten).length≤5*l.length
 | []=>AOR
 | n::l=>by
  have h1:=EN n
  have h2:=XG l
  simp only[YR,df,bu,aI]
  omega
theorem iw (b:List Int) (l:List Int) (hl:l.length≤100000) (hb:b.length≤100000) (hn:∀ n∈l,ER n=true):Ctr prog 332 [.c (.sl (b.map byteC)),.c (.sl (l.map intC))] [.own 5 1 ((b++QJ l).map byteC) true]:=by
 refine CM call332 func332 ntmps332 results332 fun hw=>?_
 have h1:decide ((l.length:Int)>1000000000)=false:=AOS
 simp only[go_sem]
 refine AAM _ (GG b AOQ) fun _=>?_
 simp only[go_sem,h1]
 refine ABK 1 (A:=Nat) (fun x=>[(18,.c (.v (.int .i64 (x))))]) (fun _=>[⟨5,1,b.map byteC,true,true⟩]) (fun x=>x≤l.length) (fun x=>l.length-x) 0 ⟨⟨rfl,all1 (AU (CQ _))⟩,rfl,aA _⟩ ?_
 rintro i hi
 refine AOJ (fun h=>?_) fun h=>?_
 ·have hi':i<l.length:=by simp at h; omega
  have hok:=hn _ (ax hi')
  simp only[go_sem,AA _ hi']
  refine AAM _ (NC _) fun _=>?_
  simp only[go_sem,hok,wrap_i64 (n:=(i:Int)+1) AOQ AOQ]
  exact⟨i+1,⟨rfl,all1 (AU (CQ _))⟩,rfl,hi',AOQ⟩
 ·simp only[go_sem]
  refine AAM _ (GX b _ AOQ) fun _=>?_
  rw[Jv (by simp[ER,Ad]; omega)]
  simp only[go_sem]
  have hq:=EN (l.length:Int)
  refine ABZ [11,27,30] (A:=Nat) (fun x=>[(33,.c (.v (.int .i64 (x)))),(5,.c (.ref 0))]) (fun x=>[⟨5,1,(b++FO l.length++((l.take x).map FO).flatten).map byteC,true,true⟩]) (fun x=>x≤l.length) (fun x=>l.length-x) 0 (ABJ [(1,false)] ⟨rfl,rfl,FI _,trivial⟩ APv) (aA _) ?_
  rintro i hi
  refine AOJ (fun h=>?_) fun h=>?_
  ·have hi':i<l.length:=by simp at h; omega
   have hok:=hn _ (ax hi')
   have hq2:=XG (l.take i)
   rw[bI] at hq2
   simp only[go_sem,AA _ hi',FI]
   refine AAM _ (GX _ _ AO8) fun _=>?_
   rw[Jv hok]
   simp only[go_sem,wrap_i64 (n:=(i:Int)+1) AOQ AOQ]
   exact⟨i+1,ABJ [(1,false)] ⟨rfl,rfl,FI _,trivial⟩ (by rw[yf hi']; simp; rfl),hi',AOQ⟩
  ·have hi':i=l.length:=by simp at h; omega
   subst hi'
   simp only[go_sem,CQ,QJ,bM,bT]
   try exact AII
theorem NW (l:List DVal) (hl:l.length≤1048576):Ctr prog 402 [.c (.sl (l.map DVal.c))] [.own 5 1 ((Em l).map byteC) true]:=by
 refine CM call402 func402 ntmps402 results402 fun hw=>?_
 simp only[go_sem]
 refine AAM _ (DF l hl) fun _=>?_
 rcases h1:typeOf l==0 with _ | _
 ·have h1':typeOf l≠0:=by simpa using h1
  obtain⟨q1,q2,q3⟩:=Dk h1'
  simp only[go_sem,h1,Em,h1']
  refine ABZ [6] (A:=Nat) (fun x=>[(13,.c (.v (.int .i64 (x)))),(3,.c (.ref 0))]) (fun x=>[⟨5,1,(Jy (l.take x)).map byteC,true,true⟩]) (fun x=>x≤l.length) (fun x=>l.length-x) 0 (ABJ [(0,false)] ⟨rfl,rfl,rfl,trivial⟩ rfl) (aA _) ?_
  rintro i hi
  refine AOJ (fun h=>?_) fun h=>?_
  ·have hi':i<l.length:=by simp at h; omega
   have hok:=(q3 _ (ax hi')).1
   have hq2:=Kq (l:=l.take i) fun v hv=>(q3 v (ru hv)).1
   rw[bI] at hq2
   simp only[go_sem,AA _ hi',FI]
   refine AAM _ (Pv _ _ AOQ) fun _=>?_
   rw[Sr hok,← Py hi']
   exact AMX
  ·have hi':i=l.length:=by simp at h; omega
   subst hi'
   simp only[go_sem,CQ,bM,aB,aX]
   try exact AII
 ·have h1':typeOf l=0:=by simpa using h1
  have e:Em l = []:=bF h1'
  exact AI6
theorem RF (l:List DVal) (hl:l.length≤1048576):Ctr prog 398 [.c (.sl (l.map DVal.c))] [.own 5 1 ((Em l).map byteC) true]:=by
 refine CM call398 func398 ntmps398 results398 fun hw=>?_
 simp only[go_sem]
 refine AAM _ (Ez l hl) fun _=>?_
 rcases h1:typeOf l==0 with _ | _
 ·have h1':typeOf l≠0:=by simpa using h1
  obtain⟨q1,q2,q3⟩:=Dk h1'
  simp only[go_sem,h1,Em,h1']
  refine ABZ [5] (A:=Nat) (fun x=>[(4,.c (.v (.int .i64 (x)))),(3,.c (.ref 0))]) (fun x=>[⟨5,1,(Jy (l.take x)).map byteC,true,true⟩]) (fun x=>x≤l.length) (fun x=>l.length-x) 0 (ABJ [(0,false)] ⟨rfl,rfl,rfl,trivial⟩ rfl) (aA _) ?_
  rintro i hi
  refine AOJ (fun h=>?_) fun h=>?_
  ·have hi':i<l.length:=by simp at h; omega
   have hok:=(q3 _ (ax hi')).1
   have hq2:=Kq (l:=l.take i) fun v hv=>(q3 v (ru hv)).1
   rw[bI] at hq2
   simp only[go_sem,AA _ hi',FI]
   refine AAM _ (Px _ _ AOQ) fun _=>?_
   rw[Sr hok,← Py hi']
   simp only[go_sem,wrap_i64 (n:=(i:Int)+1) AOQ AOQ]
   exact⟨i+1,ABJ [(1,false)] ⟨rfl,rfl,FI _,trivial⟩ rfl,hi',AOQ⟩
  ·have hi':i=l.length:=by simp at h; omega
   subst hi'
   simp only[go_sem,CQ,bM,aB,aX]
   try exact AII
 ·have h1':typeOf l=0:=by simpa using h1
  have e:Em l = []:=bF h1'
  exact AI6
def AD9:Option (List DVal×Nat)→List Res
 | some (l,q)=>[.own 64 3 (l.map DVal.c) true,.val (.c (.v (.int .i64 ((q:Int))))),.val (.c (.v (.bool (true))))]
 | none=>[.own 64 3 [] true,.val (.c (.v (.int .i64 (0)))),.val (.c (.v (.bool (false))))]
theorem GZ (out:List DVal) (v:DVal):(out ++ [v]).map DVal.c=out.map DVal.c ++ [v.c]:=AOR
theorem MV (l:List DVal) (n:DVal):Gq (l.map DVal.c ++ [n.c])=true:=by rw[← GZ]; exact Pq _
theorem Vl (b:List Int) (p:Nat) (ty k:Int) (hb:Ae b) (hl:b.length≤1048576) (hk:k≤64):Ctr prog 418 [.c (.sl (b.map byteC)),.c (.v (.int .i64 ((p:Int)))),.c (.v (.int .i64 (ty))),.c (.v (.int .i64 (k)))] (AD9 (CS b ty k.toNat p)):=by
 refine CM call418 func418 ntmps418 results418 fun hw=>?_
 simp only[go_sem]
 refine ABZ [16] (A:=Nat×Nat×List DVal) (fun x=>[(12,.c (.v (.int .i64 (x.1)))),(11,.c (.ref 0)),(1,.c (.v (.int .i64 ((x.2.1:Int)))))]) (fun x=>[⟨64,3,x.2.2.map DVal.c,true,true⟩]) (fun x=>x.1≤k.toNat∧x.2.2.length=x.1∧(CS b ty (k.toNat-x.1) x.2.1).map (fun y=>(x.2.2++y.1,y.2))=CS b ty k.toNat p) (fun x=>k.toNat-x.1) (0,p,[]) (ABJ [(0,false)] ⟨rfl,rfl,rfl,trivial⟩ rfl) ⟨aA _,rfl,AOR⟩ ?_
 rintro⟨i,q',l⟩ ⟨hi,hll,hb2⟩
 dsimp only at hi hll hb2
 refine AOJ (fun h=>?_) fun h=>?_
 ·have hi':i<k.toNat:=by simp at h; omega
  rw[show k.toNat-i=(k.toNat-(i+1))+1 from AOQ,CS] at hb2
  have hg2:=Vj b q' ty hb hl
  simp only[go_sem]
  rcases h3:Fv b q' ty with _ | ⟨n,q2⟩<;>rw[h3] at hg2 hb2<;>simp only[eY] at hg2
  ·refine AAM _ hg2 fun _=>?_
   simp only[WB] at hb2
   rw[← hb2]
   simp only[go_sem,AD9]
   try simp[BJ]
  ·exact AK5
 ·have hi':i=k.toNat:=by simp at h; omega
  subst hi'
  rw[jV,CS] at hb2
  simp only[bY,bQ] at hb2
  rw[← hb2]
  simp only[go_sem,AD9,DD]
  try exact AII
def Dv:Option (List DVal)→List Res
 | some l=>[.val (.c (.sl (l.map DVal.c))),.val (.c (.v (.bool (true))))]
 | none=>[.val (.c (.sl [])),.val (.c (.v (.bool (false))))]
theorem AAc {a b:List Int} (ha:Ae a) (hb:Ae b):((strOfNums a).toList==(strOfNums b).toList)=decide (a=b):=by
 rw[abz,iP,aZ,← ABz ha hb]
 exact⟨yz,fun h=>by rw[h]⟩
theorem Lu (a b:List Int):Ctr prog 359 [.c (.sl (a.map byteC)),.c (.sl (b.map byteC))] [.val (.c (.v (.bool (decide (a=b)))))]:=by
 refine CM call359 func359 ntmps359 results359 fun hw=>?_
 exact AN7
theorem Ik (a b:List Int):Ctr prog 387 [.c (.sl (a.map byteC)),.c (.sl (b.map byteC))] [.val (.c (.v (.bool (decide (a=b)))))]:=by
 refine CM call387 func387 ntmps387 results387 fun hw=>?_
 exact AN7
theorem Cb (b:List Int) (k:Int) (l:List DVal) (e:List Int):Ctr prog 396 [.c (.sl (b.map byteC)),.c (.v (.int .i64 (k))),.c (.sl (l.map DVal.c)),.c (.sl (e.map byteC))] (Dv (again b k l e)):=by
 refine CM call396 func396 ntmps396 results396 fun hw=>?_
 simp only[go_sem]
 refine AAM _ (AL _ _ _) fun _=>?_
 rcases h1:Ad k 1 64 with _ | _
 ·have:again b k l e=none:=bz AO4
  simp only[go_sem,h1,this,Dv]
 have h1':1≤k∧k≤64:=AO4
 simp only[go_sem,h1]
 rcases h2:(l.length:Int) != k with _ | _
 ·have h2':(l.length:Int)=k:=by simpa using h2
  simp only[go_sem,h2]
  refine AAM _ (Lu b e) fun _=>?_
  rcases h3:decide (b=e) with _ | _
  ·have:again b k l e=none:=bz (fun q=>by simp at h3; exact h3 q.2.2.2)
   simp only[go_sem,h3,this,Dv]
  ·have:again b k l e=some l:=bF ⟨h1'.1,h1'.2,h2',AOm⟩
   simp only[go_sem,h3,this,Dv]
 ·have:again b k l e=none:=bz AOh
  simp only[go_sem,h2,this,Dv]
theorem eu (b:List Int) (ty k:Int) (hb:Ae b) (hl:b.length≤1048576):Ctr prog 382 [.c (.sl (b.map byteC)),.c (.v (.int .i64 (ty))),.c (.v (.int .i64 (k)))] (Dv (Gf b ty k)):=by
 refine CM call382 func382 ntmps382 results382 fun hw=>?_
 simp only[go_sem]
 refine AAM _ (AO _ _ _) fun _=>?_
 rcases h2:Ad k 1 64 with _ | _
 ·have:Gf b ty k=none:=bz AOa
  simp only[go_sem,h2,this,Dv]
  try simp[BJ]
 have h2':1≤k∧k≤64:=AOa
 have hall:Gf b ty k=match CS b ty k.toNat 0 with
  | none=>none
  | some (l,q)=>if q=b.length then some l else none:=bF h2'
 simp only[go_sem,h2]
 refine ABZ [14] (A:=Nat×Nat×List DVal) (fun x=>[(10,.c (.v (.int .i64 (x.1)))),(8,.c (.ref 0)),(9,.c (.v (.int .i64 ((x.2.1:Int)))))]) (fun x=>[⟨64,3,x.2.2.map DVal.c,true,true⟩]) (fun x=>x.1≤k.toNat∧x.2.2.length=x.1∧(CS b ty (k.toNat-x.1) x.2.1).map (fun y=>(x.2.2++y.1,y.2))=CS b ty k.toNat 0) (fun x=>k.toNat-x.1) (0,0,[]) (ABJ [(0,false)] ⟨rfl,rfl,rfl,trivial⟩ rfl) ⟨aA _,rfl,AOR⟩ ?_
 rintro⟨i,q',l⟩ ⟨hi,hll,hb2⟩
 dsimp only at hi hll hb2
 refine AOJ (fun h=>?_) fun h=>?_
 ·have hi':i<k.toNat:=by simp at h; omega
  rw[show k.toNat-i=(k.toNat-(i+1))+1 from AOQ,CS] at hb2
  have hg2:=MR b q' ty hb hl
  simp only[go_sem]
  rcases h3:Fv b q' ty with _ | ⟨n,q2⟩<;>rw[h3] at hg2 hb2<;>simp only[eY] at hg2
  ·refine AAM _ hg2 fun _=>?_
   simp only[WB] at hb2
   rw[hall,← hb2]
   simp only[go_sem,Dv]
   try simp[BJ]
  ·exact AK5
 ·have hi':i=k.toNat:=by simp at h; omega
  subst hi'
  rw[jV,CS] at hb2
  simp only[bY,bQ] at hb2
  rw[hall,← hb2]
  rcases h4:((q':Int) != (b.length:Int)) with _ | _
  ·have h4':q'=b.length:=by simp at h4; omega
   simp only[go_sem,h4,bF h4',Dv]
   try exact AII
  ·have h4':¬ q'=b.length:=by simp at h4; omega
   simp only[go_sem,h4,bz h4',Dv]
   try simp[BJ]
theorem fA (b:List Int) (ty k:Int) (hb:Ae b) (hl:b.length≤1048576):Ctr prog 391 [.c (.sl (b.map byteC)),.c (.v (.int .i64 (ty))),.c (.v (.int .i64 (k)))] (Dv (Gf b ty k)):=by
 rw[← YB hb]
 refine CM call391 func391 ntmps391 results391 fun hw=>?_
 simp only[go_sem]
 refine AAM _ (AL _ _ _) fun _=>?_
 rcases h2:Ad k 1 64 with _ | _
 ·have:O5 b ty k=none:=bz AOa
  simp only[go_sem,h2,this,Dv]
  try simp[BJ]
 have h2':1≤k∧k≤64:=AOa
 simp only[go_sem,h2]
 have hg:=Vl b 0 ty k hb hl h2'.2
 have hall:O5 b ty k=again b k (((CS b ty k.toNat 0).map Prod.fst).getD []) (Em (((CS b ty k.toNat 0).map Prod.fst).getD [])):=bF h2'
 rw[hall]
 rcases h3:CS b ty k.toNat 0 with _ | ⟨l,q⟩<;>rw[h3] at hg<;>simp only[AD9] at hg<;>simp only[WB,bY,wF,aH]
 ·refine AAM _ hg fun _=>?_
  simp only[go_sem]
  refine AAM _ (NW [] AOR) fun _=>?_
  simp only[go_sem]
  refine AAM _ (Cb b k [] (Em [])) fun _=>?_
  rcases h4:again b k [] (Em []) with _ | l'<;>simp only[go_sem,Dv]
 ·refine AAM _ hg fun _=>?_
  simp only[go_sem]
  have hlen:=(JS hb _ _ _ _ (aA _) h3).2.2.1
  refine AAM _ (NW l AOQ) fun _=>?_
  simp only[go_sem]
  refine AAM _ (Cb b k l (Em l)) fun _=>?_
  rcases h4:again b k l (Em l) with _ | l'<;>simp only[go_sem,Dv]
end Go.Proofs.YtnoldekcdlaahaaGreat
