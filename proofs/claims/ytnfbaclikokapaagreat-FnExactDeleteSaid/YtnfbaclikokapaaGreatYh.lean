/- A part. -/
import Derived.Test.YtnfbaclikokapaaGreatYf
import Derived.Test.YtnfbaclikokapaaGreatYt
set_option linter.unusedSimpArgs false
set_option linter.unusedVariables false
set_option maxHeartbeats 2000000
set_option maxRecDepth 10000
open Go.Proofs.Tryz
namespace Go.Proofs.YtnfbaclikokapaaGreat
open Go.Vm
theorem AE4:F5 []=true:=rfl
attribute [go_sem] AE4 EG OW Be Bg Am CV AE1
theorem Lj:∀ {b:List Int},dS (b.map byteC)→AY b
 | [],_=>by simp[AY]
 | c::b,h=>by
  simp only[XA,dS,NM,Rq,nZ] at h
  intro x hx
  rcases cZ.1 hx with rfl | hx
  ·have:=h.1.1
   simp only[O9,Lit.wf,ak,bf] at this
   simp[IntKind.min,IntKind.max,IntKind.bits,IntKind.signed] at this
   unfold isByte
   omega
  ·exact Lj h.2 x hx
theorem zQ {a b:List Int} (ha:AY a) (hb:AY b):(strOfNums a=strOfNums b)↔a=b:=by
 constructor
 ·intro h
  rw[← ja ha,← ja hb,h]
 ·rintro rfl; rfl
theorem Cc {l:List DVal} (h:typeOf l≠0):1≤l.length∧l.length≤64∧∀ v∈l,BD v=true∧v.ty=typeOf l:=by
 cases l with
 | nil=>exact absurd rfl h
 | cons v r =>
  have e:typeOf (v::r)=if(v::r).length≤64∧∀ x∈(v::r),BD x=true∧x.ty=v.ty then v.ty else 0:=rfl
  rw[e] at h ⊢
  split at h
  ·rename_i h1
   rw[bz h1]
   exact⟨by simp,h1.1,h1.2⟩
  ·exact absurd rfl h
theorem DR (n:Int):(EM n).length≤5:=XN 4 _
theorem UH {v:DVal} (h:BD v=true):(UB v).length≤7:=by
 unfold UB
 split
 ·have:=DR v.n; omega
 ·rename_i h3
  have:v.s.size≤6:=by
   simp only[BD,aV h3,ak,bf] at h
   exact h.1.2
  simp[ABg]; omega
theorem Ja:∀ {l:List DVal},(∀ v∈l,BD v=true)→(I_ l).length≤7*l.length
 | [],_=>by simp[I_]
 | v::l,h=>by
  have h1:=UH (h v (by simp))
  have h2:=Ja fun x hx=>h x (abf v hx)
  simp only[I_,XA,bT,aW,bU] at h1 h2 ⊢
  omega
theorem Qn {v:DVal} (h:BD v=true):Zr v=UB v:=by simp only[Zr,h,bD]
theorem JB {n:Int} (h:DX n=true):Wj n=EM n:=by simp only[Wj,h,bD]
theorem OZ {l:List DVal} {i:Nat} (h:i<l.length):I_ (l.take (i+1))=I_ (l.take i)++UB l[i]:=by
 rw[aas h]
 simp only[I_,Vp,aaP,XA,dh,bT,Zh,bF]
theorem uS {l:List Int} {i:Nat} (h:i<l.length):((l.take (i+1)).map EM).flatten=((l.take i).map EM).flatten++EM l[i]:=by
 rw[aas h]
 simp only[Vp,aaP,XA,dh,bT,Zh,bF]
theorem VG:∀ l:List Int,((l.map EM).flatten).length≤5*l.length
 | []=>by simp
 | n::l=>by
  have h1:=DR n
  have h2:=VG l
  simp only[XA,bT,aW,bU]
  omega
theorem Zt (b:List Int) (l:List Int) (hl:l.length≤100000) (hb:b.length≤100000) (hn:∀ n∈l,DX n=true):Ctr prog 278 [.c (.sl (b.map byteC)),.c (.sl (l.map intC))] [.own 5 1 ((b++O0 l).map byteC) true]:=by
 refine CM call278 func278 ntmps278 results278 fun hw=>?_
 have h1:decide ((l.length:Int)>1000000000)=false:=by simp; omega
 simp only[go_sem]
 refine CallK.mk _ (Et b (by omega)) fun _=>?_
 simp only[go_sem,h1]
 refine LoopU.mk 1 (A:=Nat) (fun x=>[(18,.c (.v (.int .i64 (x))))]) (fun _=>[⟨5,1,b.map byteC,true,true⟩]) (fun x=>x≤l.length) (fun x=>l.length-x) 0 ⟨⟨rfl,all1 (AP (Bg _))⟩,rfl,ax _⟩ ?_
 rintro i hi
 simp only[go_sem]
 refine cndC.mk (fun h=>?_) (fun h=>?_)
 ·have hi':i<l.length:=by simp at h; omega
  have hok:=hn _ (aj hi')
  simp only[go_sem,AA _ hi']
  refine CallK.mk _ (LX _) fun _=>?_
  simp only[go_sem,hok,wrap_i64 (n:=(i:Int)+1) (by omega) (by omega)]
  exact⟨i+1,⟨rfl,all1 (AP (Bg _))⟩,rfl,hi',by omega⟩
 ·simp only[go_sem]
  refine CallK.mk _ (FI b _ (by omega)) fun _=>?_
  rw[JB (by simp[DX,Ac]; omega)]
  simp only[go_sem]
  have hq:=DR (l.length:Int)
  refine LoopH.mk [11,27,30] (A:=Nat) (fun x=>[(33,.c (.v (.int .i64 (x)))),(5,.c (.ref 0))]) (fun x=>[⟨5,1,(b++EM l.length++((l.take x).map EM).flatten).map byteC,true,true⟩]) (fun x=>x≤l.length) (fun x=>l.length-x) 0 (Head.sel [(1,false)] ⟨rfl,rfl,EG _,trivial⟩ (by simp only[abj,dh,Zh,bF]; rfl)) (ax _) ?_
  rintro i hi
  simp only[go_sem]
  refine cndC.mk (fun h=>?_) (fun h=>?_)
  ·have hi':i<l.length:=by simp at h; omega
   have hok:=hn _ (aj hi')
   have hq2:=VG (l.take i)
   rw[bC] at hq2
   simp only[go_sem,AA _ hi',EG]
   refine CallK.mk _ (FI _ _ (by simp only[aW]; omega)) fun _=>?_
   rw[JB hok]
   simp only[go_sem,wrap_i64 (n:=(i:Int)+1) (by omega) (by omega)]
   exact⟨i+1,Head.sel [(1,false)] ⟨rfl,rfl,EG _,trivial⟩ (by rw[uS hi']; simp; rfl),hi',by omega⟩
  ·have hi':i=l.length:=by simp at h; omega
   subst hi'
   simp only[go_sem,Bg,O0,bG,bM]
   try simp[AU,AO]
theorem Ll (l:List DVal) (hl:l.length≤1048576):Ctr prog 293 [.c (.sl (l.map DVal.c))] [.own 5 1 ((Dw l).map byteC) true]:=by
 refine CM call293 func293 ntmps293 results293 fun hw=>?_
 simp only[go_sem]
 refine CallK.mk _ (Bz l hl) fun _=>?_
 rcases h1:typeOf l==0 with _ | _
 ·have h1':typeOf l≠0:=by simpa using h1
  obtain⟨q1,q2,q3⟩:=Cc h1'
  simp only[go_sem,h1,Dw,h1']
  refine LoopH.mk [6] (A:=Nat) (fun x=>[(13,.c (.v (.int .i64 (x)))),(3,.c (.ref 0))]) (fun x=>[⟨5,1,(I_ (l.take x)).map byteC,true,true⟩]) (fun x=>x≤l.length) (fun x=>l.length-x) 0 (Head.sel [(0,false)] ⟨rfl,rfl,rfl,trivial⟩ rfl) (ax _) ?_
  rintro i hi
  simp only[go_sem]
  refine cndC.mk (fun h=>?_) (fun h=>?_)
  ·have hi':i<l.length:=by simp at h; omega
   have hok:=(q3 _ (aj hi')).1
   have hq2:=Ja (l:=l.take i) fun v hv=>(q3 v (yR hv)).1
   rw[bC] at hq2
   simp only[go_sem,AA _ hi',EG]
   refine CallK.mk _ (OX _ _ (by omega)) fun _=>?_
   rw[Qn hok,← OZ hi']
   simp only[go_sem,wrap_i64 (n:=(i:Int)+1) (by omega) (by omega)]
   exact⟨i+1,Head.sel [(2,false)] ⟨rfl,rfl,EG _,trivial⟩ rfl,hi',by omega⟩
  ·have hi':i=l.length:=by simp at h; omega
   subst hi'
   simp only[go_sem,Bg,bG,aC,aT]
   try simp[AU,AO]
 ·have h1':typeOf l=0:=by simpa using h1
  have e:Dw l = []:=bz h1'
  rw[e]
  simp only[go_sem,h1]
  try simp[AU,AO,Df]
theorem P7 (l:List DVal) (hl:l.length≤1048576):Ctr prog 317 [.c (.sl (l.map DVal.c))] [.own 5 1 ((Dw l).map byteC) true]:=by
 refine CM call317 func317 ntmps317 results317 fun hw=>?_
 simp only[go_sem]
 refine CallK.mk _ (D8 l hl) fun _=>?_
 rcases h1:typeOf l==0 with _ | _
 ·have h1':typeOf l≠0:=by simpa using h1
  obtain⟨q1,q2,q3⟩:=Cc h1'
  simp only[go_sem,h1,Dw,h1']
  refine LoopH.mk [5] (A:=Nat) (fun x=>[(4,.c (.v (.int .i64 (x)))),(3,.c (.ref 0))]) (fun x=>[⟨5,1,(I_ (l.take x)).map byteC,true,true⟩]) (fun x=>x≤l.length) (fun x=>l.length-x) 0 (Head.sel [(0,false)] ⟨rfl,rfl,rfl,trivial⟩ rfl) (ax _) ?_
  rintro i hi
  simp only[go_sem]
  refine cndC.mk (fun h=>?_) (fun h=>?_)
  ·have hi':i<l.length:=by simp at h; omega
   have hok:=(q3 _ (aj hi')).1
   have hq2:=Ja (l:=l.take i) fun v hv=>(q3 v (yR hv)).1
   rw[bC] at hq2
   simp only[go_sem,AA _ hi',EG]
   refine CallK.mk _ (OY _ _ (by omega)) fun _=>?_
   rw[Qn hok,← OZ hi']
   simp only[go_sem,wrap_i64 (n:=(i:Int)+1) (by omega) (by omega)]
   exact⟨i+1,Head.sel [(1,false)] ⟨rfl,rfl,EG _,trivial⟩ rfl,hi',by omega⟩
  ·have hi':i=l.length:=by simp at h; omega
   subst hi'
   simp only[go_sem,Bg,bG,aC,aT]
   try simp[AU,AO]
 ·have h1':typeOf l=0:=by simpa using h1
  have e:Dw l = []:=bz h1'
  rw[e]
  simp only[go_sem,h1]
  try simp[AU,AO,Df]
def ABk:Option (List DVal×Nat)→List Res
 | some (l,q)=>[.own 68 3 (l.map DVal.c) true,.val (.c (.v (.int .i64 ((q:Int))))),.val (.c (.v (.bool (true))))]
 | none=>[.own 68 3 [] true,.val (.c (.v (.int .i64 (0)))),.val (.c (.v (.bool (false))))]
theorem FM (out:List DVal) (v:DVal):(out ++ [v]).map DVal.c=out.map DVal.c ++ [v.c]:=by simp
theorem Ku (l:List DVal) (n:DVal):F5 (l.map DVal.c ++ [n.c])=true:=by rw[← FM]; exact OW _
theorem UI (b:List Int) (p:Nat) (ty k:Int) (hb:AY b) (hl:b.length≤1048576) (hk:k≤64):Ctr prog 292 [.c (.sl (b.map byteC)),.c (.v (.int .i64 ((p:Int)))),.c (.v (.int .i64 (ty))),.c (.v (.int .i64 (k)))] (ABk (Ba b ty k.toNat p)):=by
 refine CM call292 func292 ntmps292 results292 fun hw=>?_
 simp only[go_sem]
 refine LoopH.mk [16] (A:=Nat×Nat×List DVal) (fun x=>[(12,.c (.v (.int .i64 (x.1)))),(11,.c (.ref 0)),(1,.c (.v (.int .i64 ((x.2.1:Int)))))]) (fun x=>[⟨68,3,x.2.2.map DVal.c,true,true⟩]) (fun x=>x.1≤k.toNat∧x.2.2.length=x.1∧(Ba b ty (k.toNat-x.1) x.2.1).map (fun y=>(x.2.2++y.1,y.2))=Ba b ty k.toNat p) (fun x=>k.toNat-x.1) (0,p,[]) (Head.sel [(0,false)] ⟨rfl,rfl,rfl,trivial⟩ rfl) ⟨ax _,rfl,by simp⟩ ?_
 rintro⟨i,q',l⟩ ⟨hi,hll,hb2⟩
 dsimp only at hi hll hb2
 simp only[go_sem]
 refine cndC.mk (fun h=>?_) (fun h=>?_)
 ·have hi':i<k.toNat:=by simp at h; omega
  rw[show k.toNat-i=(k.toNat-(i+1))+1 by omega,Ba] at hb2
  have hg2:=UG b q' ty hb hl
  simp only[go_sem]
  rcases h3:Ec b q' ty with _ | ⟨n,q2⟩<;>rw[h3] at hg2 hb2<;>simp only[Yf] at hg2
  ·refine CallK.mk _ hg2 fun _=>?_
   simp only[di] at hb2
   rw[← hb2]
   simp only[go_sem,ABk]
   try simp[Df]
  ·refine CallK.mk _ hg2 fun _=>?_
   have hl2:l.length+1≤2147483648:=by omega
   simp only[go_sem,hl2,wrap_i64 (n:=(i:Int)+1) (by omega) (by omega)]
   exact⟨(i+1,q2,l ++ [n]),Head.sel [(3,false)] ⟨rfl,rfl,Ku l n,trivial⟩ (by rw[FM]; rfl),⟨hi',by simp; omega,by rw[← hb2,yV]; congr 1; funext y; simp⟩,by simp only; omega⟩
 ·have hi':i=k.toNat:=by simp at h; omega
  subst hi'
  rw[dM,Ba] at hb2
  simp only[bP,bF] at hb2
  rw[← hb2]
  simp only[go_sem,ABk,CV]
  try simp[AU,AO]
def Cj:Option (List DVal)→List Res
 | some l=>[.val (.c (.sl (l.map DVal.c))),.val (.c (.v (.bool (true))))]
 | none=>[.val (.c (.sl [])),.val (.c (.v (.bool (false))))]
theorem xC {a b:List Int} (ha:AY a) (hb:AY b):((strOfNums a).toList==(strOfNums b).toList)=decide (a=b):=by
 rw[Bool.eq_iff_iff,ZZ,bf,← zQ ha hb]
 exact⟨kK,fun h=>by rw[h]⟩
theorem KF (a b:List Int):Ctr prog 253 [.c (.sl (a.map byteC)),.c (.sl (b.map byteC))] [.val (.c (.v (.bool (decide (a=b)))))]:=by
 refine CM call253 func253 ntmps253 results253 fun hw=>?_
 have h1:=Lj hw.1.2
 have h2:=Lj hw.2.1.2
 simp only[go_sem,Lh,xC h1 h2]
theorem Hq (a b:List Int):Ctr prog 266 [.c (.sl (a.map byteC)),.c (.sl (b.map byteC))] [.val (.c (.v (.bool (decide (a=b)))))]:=by
 refine CM call266 func266 ntmps266 results266 fun hw=>?_
 have h1:=Lj hw.1.2
 have h2:=Lj hw.2.1.2
 simp only[go_sem,Lh,xC h1 h2]
theorem Bh (b:List Int) (k:Int) (l:List DVal) (e:List Int):Ctr prog 275 [.c (.sl (b.map byteC)),.c (.v (.int .i64 (k))),.c (.sl (l.map DVal.c)),.c (.sl (e.map byteC))] (Cj (again b k l e)):=by
 refine CM call275 func275 ntmps275 results275 fun hw=>?_
 simp only[go_sem]
 refine CallK.mk _ (AC _ _ _) fun _=>?_
 rcases h1:Ac k 1 64 with _ | _
 ·have:again b k l e=none:=aV (by simp[Ac] at h1; omega)
  simp only[go_sem,h1,this,Cj]
 have h1':1≤k∧k≤64:=by simp[Ac] at h1; omega
 simp only[go_sem,h1]
 rcases h2:(l.length:Int) != k with _ | _
 ·have h2':(l.length:Int)=k:=by simpa using h2
  simp only[go_sem,h2]
  refine CallK.mk _ (KF b e) fun _=>?_
  rcases h3:decide (b=e) with _ | _
  ·have:again b k l e=none:=aV (fun q=>by simp at h3; exact h3 q.2.2.2)
   simp only[go_sem,h3,this,Cj]
  ·have:again b k l e=some l:=bz ⟨h1'.1,h1'.2,h2',by simpa using h3⟩
   simp only[go_sem,h3,this,Cj]
 ·have:again b k l e=none:=aV (by simp at h2; omega)
  simp only[go_sem,h2,this,Cj]
theorem Yg (b:List Int) (ty k:Int) (hb:AY b) (hl:b.length≤1048576):Ctr prog 261 [.c (.sl (b.map byteC)),.c (.v (.int .i64 (ty))),.c (.v (.int .i64 (k)))] (Cj (FC b ty k)):=by
 refine CM call261 func261 ntmps261 results261 fun hw=>?_
 simp only[go_sem]
 refine CallK.mk _ (AL _ _ _) fun _=>?_
 rcases h2:Ac k 1 64 with _ | _
 ·have:FC b ty k=none:=aV (by simp[Ac] at h2; omega)
  simp only[go_sem,h2,this,Cj]
  try simp[Df]
 have h2':1≤k∧k≤64:=by simp[Ac] at h2; omega
 have hall:FC b ty k=match Ba b ty k.toNat 0 with
  | none=>none
  | some (l,q)=>if q=b.length then some l else none:=bz h2'
 simp only[go_sem,h2]
 refine LoopH.mk [14] (A:=Nat×Nat×List DVal) (fun x=>[(10,.c (.v (.int .i64 (x.1)))),(8,.c (.ref 0)),(9,.c (.v (.int .i64 ((x.2.1:Int)))))]) (fun x=>[⟨68,3,x.2.2.map DVal.c,true,true⟩]) (fun x=>x.1≤k.toNat∧x.2.2.length=x.1∧(Ba b ty (k.toNat-x.1) x.2.1).map (fun y=>(x.2.2++y.1,y.2))=Ba b ty k.toNat 0) (fun x=>k.toNat-x.1) (0,0,[]) (Head.sel [(0,false)] ⟨rfl,rfl,rfl,trivial⟩ rfl) ⟨ax _,rfl,by simp⟩ ?_
 rintro⟨i,q',l⟩ ⟨hi,hll,hb2⟩
 dsimp only at hi hll hb2
 simp only[go_sem]
 refine cndC.mk (fun h=>?_) (fun h=>?_)
 ·have hi':i<k.toNat:=by simp at h; omega
  rw[show k.toNat-i=(k.toNat-(i+1))+1 by omega,Ba] at hb2
  have hg2:=Kt b q' ty hb hl
  simp only[go_sem]
  rcases h3:Ec b q' ty with _ | ⟨n,q2⟩<;>rw[h3] at hg2 hb2<;>simp only[Yf] at hg2
  ·refine CallK.mk _ hg2 fun _=>?_
   simp only[di] at hb2
   rw[hall,← hb2]
   simp only[go_sem,Cj]
   try simp[Df]
  ·refine CallK.mk _ hg2 fun _=>?_
   have hl2:l.length+1≤2147483648:=by omega
   simp only[go_sem,hl2,wrap_i64 (n:=(i:Int)+1) (by omega) (by omega)]
   exact⟨(i+1,q2,l ++ [n]),Head.sel [(3,false)] ⟨rfl,rfl,Ku l n,trivial⟩ (by rw[FM]; rfl),⟨hi',by simp; omega,by rw[← hb2,yV]; congr 1; funext y; simp⟩,by simp only; omega⟩
 ·have hi':i=k.toNat:=by simp at h; omega
  subst hi'
  rw[dM,Ba] at hb2
  simp only[bP,bF] at hb2
  rw[hall,← hb2]
  rcases h4:((q':Int) != (b.length:Int)) with _ | _
  ·have h4':q'=b.length:=by simp at h4; omega
   simp only[go_sem,h4,bz h4',Cj]
   try simp[AU,AO]
  ·have h4':¬ q'=b.length:=by simp at h4; omega
   simp only[go_sem,h4,aV h4',Cj]
   try simp[Df]
theorem Yh (b:List Int) (ty k:Int) (hb:AY b) (hl:b.length≤1048576):Ctr prog 270 [.c (.sl (b.map byteC)),.c (.v (.int .i64 (ty))),.c (.v (.int .i64 (k)))] (Cj (FC b ty k)):=by
 rw[← V4 hb]
 refine CM call270 func270 ntmps270 results270 fun hw=>?_
 simp only[go_sem]
 refine CallK.mk _ (AC _ _ _) fun _=>?_
 rcases h2:Ac k 1 64 with _ | _
 ·have:Nk b ty k=none:=aV (by simp[Ac] at h2; omega)
  simp only[go_sem,h2,this,Cj]
  try simp[Df]
 have h2':1≤k∧k≤64:=by simp[Ac] at h2; omega
 simp only[go_sem,h2]
 have hg:=UI b 0 ty k hb hl h2'.2
 have hall:Nk b ty k=again b k (((Ba b ty k.toNat 0).map Prod.fst).getD []) (Dw (((Ba b ty k.toNat 0).map Prod.fst).getD [])):=bz h2'
 rw[hall]
 rcases h3:Ba b ty k.toNat 0 with _ | ⟨l,q⟩<;>rw[h3] at hg<;>simp only[ABk] at hg<;>simp only[di,bP,qy,aJ]
 ·refine CallK.mk _ hg fun _=>?_
  simp only[go_sem]
  refine CallK.mk _ (Ll [] (by simp)) fun _=>?_
  simp only[go_sem]
  refine CallK.mk _ (Bh b k [] (Dw [])) fun _=>?_
  rcases h4:again b k [] (Dw []) with _ | l'<;>simp only[go_sem,Cj]
 ·refine CallK.mk _ hg fun _=>?_
  simp only[go_sem]
  have hlen:=(IY hb _ _ _ _ (ax _) h3).2.2.1
  refine CallK.mk _ (Ll l (by omega)) fun _=>?_
  simp only[go_sem]
  refine CallK.mk _ (Bh b k l (Dw l)) fun _=>?_
  rcases h4:again b k l (Dw l) with _ | l'<;>simp only[go_sem,Cj]
def EY (r:DVal×Int):List Cl:=[.v (.int .i64 r.1.ty),.v (.int .i64 r.1.n),.v (.string r.1.s),.v (.int .i64 r.2)]
theorem zS (r:DVal×Int):CB (EY r)=true:=rfl
theorem Jb (l:List (DVal×Int)):F5 (l.map EY)=true:=AQ zS
def L8:List (DVal×Int)→DVal→List (DVal×Int)
 | [],v=>[(v,1)]
 | [x],v=>if LC x.1 v=true then [(x.1,x.2+1)] else [x,(v,1)]
 | x::y::r,v=>x::L8 (y::r) v
theorem ADC (r:List (DVal×Int)) (v:DVal):L8 r v≠ []:=by
 cases r with
 | nil=>simp[L8]
 | cons x r =>
  cases r with
  | nil=>simp only[L8]; split<;>simp
  | cons y r=>simp[L8]
theorem ABl {l:List DVal} (h:runs l = []):l = []:=by
 cases l with
 | nil=>rfl
 | cons v l =>
  rw[runs] at h
  split at h
  ·cases h
  ·split at h<;>cases h
theorem Qo (v:DVal) (l:List DVal):runs (v::l)=match runs l with
  | []=>[(v,1)]
  | (x,k)::r=>if LC v x=true then(x,k+1)::r else(v,1)::(x,k)::r:=by rw[runs]; rfl
theorem Qp (v:DVal):∀ l:List DVal,runs (l ++ [v])=L8 (runs l) v
 | []=>rfl
 | a::l=>by
  have ih:=Qp v l
  rw[aK,Qo,Qo,ih]
  cases hr:runs l with
  | nil =>
   have:=ABl hr
   subst this
   simp only[L8]
   by_cases h:LC a v=true
   ·have:=(JD a v).1 h
    subst this
    simp[h]
   ·simp[h]
  | cons y r =>
   obtain⟨x,k⟩:=y
   cases r with
   | nil =>
    simp only[L8]
    by_cases h:LC x v=true<;>by_cases h2:LC a x=true<;>simp[h,h2,L8]
   | cons z r =>
    rw[L8]
    dsimp only
    by_cases h2:LC a x=true
    ·rw[bz h2,bz h2,L8]
    ·rw[aV h2,aV h2,L8,L8]
theorem jl (v:DVal):∀ {rs:List (DVal×Int)} {n:Nat} (h:rs.length=n+1),L8 rs v=if LC (rs[n]'(by omega)).1 v=true then rs.set n ((rs[n]'(by omega)).1,(rs[n]'(by omega)).2+1) else rs ++ [(v,1)]
 | [],_,h=>by simp at h
 | [x],n,h=>by
  have:n=0:=by simpa using h.symm
  subst this
  simp only[L8,abx]
  rfl
 | x::y::r,n,h=>by
  obtain⟨m,rfl⟩:∃ m,n=m+1:=⟨n-1,by simp at h; omega⟩
  rw[L8,jl v (rs:=y::r) (n:=m) (by simpa using h)]
  simp only[aby,List.set_cons_succ,aK]
  split<;>rfl
theorem eX (v:DVal):∀ (rs:List (DVal×Int)),∃ q,(L8 rs v).getLast?=some (v,q)
 | []=>⟨1,rfl⟩
 | [x]=>by
  simp only[L8]
  split
  ·rename_i h
   exact⟨x.2+1,by rw[(JD _ _).1 h]; rfl⟩
  ·exact⟨1,rfl⟩
 | x::y::r=>by
  obtain⟨q,hq⟩:=eX v (y::r)
  refine⟨q, ?_⟩
  rw[L8,List.getLast?_cons,hq]; rfl
theorem J3:∀ {l:List DVal} {r:DVal×Int},r∈runs l→r.1∈l∧1≤r.2∧r.2≤l.length
 | [],_,h=>by cases h
 | v::l,r,h=>by
  rw[Qo] at h
  have ih:=fun r=>J3 (l:=l) (r:=r)
  cases hr:runs l with
  | nil =>
   simp only[hr,aaT] at h
   subst h
   simp only[cZ,bU]
   exact⟨.inl trivial,by omega,by omega⟩
  | cons y q =>
   obtain⟨x,k⟩:=y
   rw[hr] at h ih
   dsimp only at h
   split at h
   ·rcases cZ.1 h with rfl | h
    ·obtain⟨a1,a2,a3⟩:=ih (x,k) (by simp)
     simp only[cZ,bU] at *
     exact⟨.inr a1,by omega,by omega⟩
    ·obtain⟨a1,a2,a3⟩:=ih r (by simp[h])
     simp only[cZ,bU]
     exact⟨.inr a1,by omega,by omega⟩
   ·rcases cZ.1 h with rfl | h
    ·simp only[cZ,bU]
     exact⟨.inl trivial,by omega,by omega⟩
    ·obtain⟨a1,a2,a3⟩:=ih r h
     simp only[cZ,bU]
     exact⟨.inr a1,by omega,by omega⟩
theorem Nl:∀ l:List DVal,(runs l).length≤l.length
 | []=>aN _
 | v::l=>by
  have:=Nl l
  rw[Qo]
  split
  ·simp
  ·rename_i x k r h
   rw[h] at this
   simp only[bU] at this ⊢
   split<;>simp<;>omega
theorem take_snoc {α:Type} {l:List α} {i:Nat} (h:i<l.length):l.take (i+1)=l.take i ++ [l[i]]:=aas h
theorem Yi (rs:List (DVal×Int)) (v:DVal):(rs ++ [(v,1)]).map EY=rs.map EY ++ [[.v (.int .i64 v.ty),.v (.int .i64 v.n),.v (.string v.s),.v (.int .i64 1)]]:=by simp[EY]
theorem pX (rs:List (DVal×Int)) (v:DVal):F5 (rs.map EY ++ [[.v (.int .i64 v.ty),.v (.int .i64 v.n),.v (.string v.s),.v (.int .i64 1)]])=true:=by rw[← Yi]; exact Jb _
theorem jm (rs:List (DVal×Int)) (n:Nat) (v:DVal) (k:Int):(rs.set n (v,k)).map EY=(rs.map EY).set n [.v (.int .i64 v.ty),.v (.int .i64 v.n),.v (.string v.s),.v (.int .i64 k)]:=by rw[aa6]; rfl
theorem xE (rs:List (DVal×Int)) (n:Nat) (v:DVal) (k:Int):F5 ((rs.map EY).set n [.v (.int .i64 v.ty),.v (.int .i64 v.n),.v (.string v.s),.v (.int .i64 k)])=true:=by rw[← jm]; exact Jb _
theorem eY {l:List DVal} {j:Nat} (hj:j<l.length):∃ (n:Nat) (h:(runs (l.take (j+1))).length=n+1),((runs (l.take (j+1)))[n]'(by omega)).1=l[j]:=by
 have hs:runs (l.take (j+1))=L8 (runs (l.take j)) l[j]:=by rw[take_snoc hj,Qp]
 obtain⟨q,hq⟩:=eX l[j] (runs (l.take j))
 rw[← hs] at hq
 have hne:runs (l.take (j+1))≠ []:=by rw[hs]; exact ADC _ _
 have hlen:0<(runs (l.take (j+1))).length:=aa0.2 hne
 refine⟨(runs (l.take (j+1))).length-1,by omega, ?_⟩
 rw[List.getLast?_eq_getElem?,aA (by omega)] at hq
 rw[rC hq]
theorem uT (l:List DVal) (hl:l.length≤1048576):Ctr prog 319 [.c (.sl (l.map DVal.c))] [.val (.c (.sl ((runs l).map EY)))]:=by
 refine CM call319 func319 ntmps319 results319 fun hw=>?_
 simp only[go_sem]
 refine LoopH.mk [6] (A:=Nat) (fun x=>[(9,.c (.v (.int .i64 (x)))),(3,.c (.ref 0))]) (fun x=>[⟨279,4,(runs (l.take x)).map EY,true,true⟩]) (fun x=>x≤l.length) (fun x=>l.length-x) 0 (Head.sel [(0,false)] ⟨rfl,rfl,rfl,trivial⟩ rfl) (ax _) ?_
 rintro i hi
 simp only[go_sem]
 refine cndC.mk (fun h=>?_) (fun h=>?_)
 ·have hi':i<l.length:=by simp at h; omega
  have hs:runs (l.take (i+1))=L8 (runs (l.take i)) l[i]:=by rw[take_snoc hi',Qp]
  have hrl:=Nl (l.take i)
  rw[bC] at hrl
  have hl2:(runs (l.take i)).length+1≤2147483648:=by omega
  rcases h2:decide ((i:Int)>0) with _ | _
  ·have h2':i=0:=by simp at h2; omega
   subst h2'
   have hs2:runs (l.take (0+1)) = [(l[0],1)]:=by rw[hs]; rfl
   have hs3:(runs ([]:List DVal)).map EY = []:=rfl
   have hs4:(runs ([]:List DVal)).length=0:=rfl
   simp only[go_sem,AA _ hi']
   refine DrawK.mk ?_
   simp only[go_sem,h2,Jb,hs4,ax,wrap_i64 (n:=((0:Nat):Int)+1) (by omega) (by omega)]
   exact⟨0+1,Head.sel [(3,false)] ⟨rfl,rfl,rfl,trivial⟩ (by rw[hs2]; rfl),hi',by omega⟩
  ·have h2':0<i:=by simpa using h2
   obtain⟨j,rfl⟩:∃ j,i=j+1:=⟨i-1,by omega⟩
   have hj:j<l.length:=by omega
   have hw1:IntKind.i64.wrap (((j+1:Nat):Int)-1)=(j:Int):=by rw[show (((j+1:Nat):Int)-1)=(j:Int) by omega]; exact wrap_i64 (by omega) (by omega)
   have e1:(l[j].ty==l[j+1].ty&&(l[j].n==l[j+1].n&&l[j].s.toList==l[j+1].s.toList))=LC l[j] l[j+1]:=rfl
   obtain⟨n,hn,hn2⟩:=eY hj
   have hn3:n<(runs (l.take (j+1))).length:=by omega
   rw[jl l[j+1] hn,hn2] at hs
   simp only[go_sem,AA _ hi']
   refine DrawK.mk ?_
   simp only[go_sem,h2,hw1,AA _ hj,Dc,Gs,e1]
   rcases h3:LC l[j] l[j+1] with _ | _
   ·rw[h3,aV (by simp)] at hs
    simp only[go_sem,h3,hl2,Jb,wrap_i64 (n:=((j+1:Nat):Int)+1) (by omega) (by omega)]
    exact⟨j+1+1,Head.sel [(3,false)] ⟨rfl,rfl,pX _ _,trivial⟩ (by rw[hs,Yi]; rfl),hi',by omega⟩
   ·rw[h3,bz rfl] at hs
    have hw2:IntKind.i64.wrap (((runs (l.take (j+1))).length:Int)-1)=(n:Int):=by rw[show (((runs (l.take (j+1))).length:Int)-1)=(n:Int) by omega]; exact wrap_i64 (by omega) (by omega)
    obtain⟨b1,b2,b3⟩:=J3 (aj hn3)
    rw[bC] at b3
    simp only[go_sem,h3,hw2,hn3,AA _ hn3,EY,Jb,hn2,wrap_i64 (n:=(runs (l.take (j+1)))[n].2+1) (by omega) (by omega),wrap_i64 (n:=((j+1:Nat):Int)+1) (by omega) (by omega)]
    exact⟨j+1+1,Head.sel [(0,false)] ⟨rfl,rfl,xE _ _ _ _,trivial⟩ (by rw[hs,jm]; rfl),hi',by omega⟩
 ·have hi':i=l.length:=by simp at h; omega
  subst hi'
  simp only[go_sem,bG,Jb]
  try simp[AU,AO]
theorem uU (l:List DVal) (hl:l.length≤1048576):Ctr prog 306 [.c (.sl (l.map DVal.c))] [.val (.c (.sl ((runs l).map EY)))]:=by
 refine CM call306 func306 ntmps306 results306 fun hw=>?_
 simp only[go_sem]
 refine LoopH.mk [6] (A:=Nat) (fun x=>[(4,.c (.v (.int .i64 (x)))),(3,.c (.ref 0))]) (fun x=>[⟨279,4,(runs (l.take x)).map EY,true,true⟩]) (fun x=>x≤l.length) (fun x=>l.length-x) 0 (Head.sel [(0,false)] ⟨rfl,rfl,rfl,trivial⟩ rfl) (ax _) ?_
 rintro i hi
 simp only[go_sem]
 refine cndC.mk (fun h=>?_) (fun h=>?_)
 ·have hi':i<l.length:=by simp at h; omega
  have hs:runs (l.take (i+1))=L8 (runs (l.take i)) l[i]:=by rw[take_snoc hi',Qp]
  have hrl:=Nl (l.take i)
  rw[bC] at hrl
  have hl2:(runs (l.take i)).length+1≤2147483648:=by omega
  rcases i with _ | j
  ·have h2:decide ((0:Int)>0)=false:=by decide
   have hs2:runs (l.take (0+1)) = [(l[0],1)]:=by rw[hs]; rfl
   have hs4:(runs ([]:List DVal)).length=0:=rfl
   simp only[go_sem,abj,hs4,Int.ofNat_zero,abG]
   refine DrawK.mk ?_
   simp only[go_sem,abj,hs4,h2,Int.ofNat_zero,abG,AA _ hi',Jb,ax,wrap_i64 (n:=(0:Int)+1) (by omega) (by omega)]
   exact⟨0+1,Head.sel [(2,false)] ⟨rfl,rfl,rfl,trivial⟩ (by rw[hs2]; rfl),hi',by omega⟩
  ·have hj:j<l.length:=by omega
   obtain⟨n,hn,hn2⟩:=eY hj
   have hn3:n<(runs (l.take (j+1))).length:=by omega
   rw[jl l[j+1] hn,hn2] at hs
   have h2:decide (((runs (l.take (j+1))).length:Int)>0)=true:=by rw[bf]; omega
   have hw2:IntKind.i64.wrap (((runs (l.take (j+1))).length:Int)-1)=(n:Int):=by rw[show (((runs (l.take (j+1))).length:Int)-1)=(n:Int) by omega]; exact wrap_i64 (by omega) (by omega)
   have e1:(l[j].ty==l[j+1].ty&&(l[j].n==l[j+1].n&&l[j].s.toList==l[j+1].s.toList))=LC l[j] l[j+1]:=rfl
   simp only[go_sem]
   refine DrawK.mk ?_
   simp only[go_sem,h2,hw2,hn3,AA _ hn3,AA _ hi',EY,hn2,Dc,Gs,e1]
   rcases h3:LC l[j] l[j+1] with _ | _
   ·rw[h3,aV (by simp)] at hs
    simp only[go_sem,h3,hl2,AA _ hi',Jb,wrap_i64 (n:=((j+1:Nat):Int)+1) (by omega) (by omega)]
    exact⟨j+1+1,Head.sel [(2,false)] ⟨rfl,rfl,pX _ _,trivial⟩ (by rw[hs,Yi]; rfl),hi',by omega⟩
   ·rw[h3,bz rfl] at hs
    obtain⟨b1,b2,b3⟩:=J3 (aj hn3)
    rw[bC] at b3
    simp only[go_sem,h3,hw2,hn3,AA _ hn3,AA _ hi',EY,Jb,hn2,wrap_i64 (n:=(runs (l.take (j+1)))[n].2+1) (by omega) (by omega),wrap_i64 (n:=((j+1:Nat):Int)+1) (by omega) (by omega)]
    exact⟨j+1+1,Head.sel [(0,false)] ⟨rfl,rfl,xE _ _ _ _,trivial⟩ (by rw[hs,jm]; rfl),hi',by omega⟩
 ·have hi':i=l.length:=by simp at h; omega
  subst hi'
  simp only[go_sem,bG,Jb]
  try simp[AU,AO]
theorem Oa (v:DVal) (k:Int) (r:List (DVal×Int)) (n:Nat):Gz ((v,k)::r) n=if k<1∨k>64-n then none else(Gz r (n+k.toNat)).map fun l=>List.replicate k.toNat v++l:=rfl
theorem Oc {α:Type} {l:List α} {i:Nat} (h:i<l.length):l.drop i=l[i]::l.drop (i+1):=aG h
theorem pY (out:List DVal) (j:Nat) (v:DVal):(out++List.replicate (j+1) v).map DVal.c=(out++List.replicate j v).map DVal.c ++ [v.c]:=by
 rw[List.replicate_succ',← bM,FM]
theorem ABm (out:List DVal) (j:Nat) (v:DVal):F5 ((out++List.replicate j v).map DVal.c ++ [v.c])=true:=by rw[← FM]; exact OW _
theorem jo (r:List (DVal×Int)) (hl:r.length≤1048576):Ctr prog 295 [.c (.sl (r.map EY))] [.val (.c (.sl ((spread r).map DVal.c)))]:=by
 refine CM call295 func295 ntmps295 results295 fun hw=>?_
 simp only[go_sem]
 refine LoopH.mk [7] (A:=Nat×List DVal) (fun x=>[(10,.c (.v (.int .i64 (x.1)))),(3,.c (.ref 0))]) (fun x=>[⟨68,3,x.2.map DVal.c,true,true⟩]) (fun x=>x.1≤r.length∧x.2.length≤64∧(Gz (r.drop x.1) x.2.length).map (fun y=>x.2++y)=Gz r 0) (fun x=>r.length-x.1) (0,[]) (Head.sel [(0,false)] ⟨rfl,rfl,rfl,trivial⟩ rfl) ⟨ax _,ax _,by simp⟩ ?_
 rintro⟨i,out⟩ ⟨hi,hll,hp⟩
 dsimp only at hi hll hp
 simp only[go_sem]
 refine cndC.mk (fun h=>?_) (fun h=>?_)
 ·have hi':i<r.length:=by simp at h; omega
  rw[Oc hi',show r[i]=(r[i].1,r[i].2) from rfl,Oa] at hp
  rcases h2:decide (r[i].2<1) with _ | _
  rotate_left
  ·rw[bz (.inl (by simpa using h2))] at hp
   simp only[di] at hp
   have e:spread r = []:=by rw[spread,← hp]; rfl
   rw[e]
   simp only[go_sem,AA _ hi',EY,h2,dh]
  have h2':1≤r[i].2:=by simp at h2; omega
  have hw1:IntKind.i64.wrap (64-(out.length:Int))=64-(out.length:Int):=wrap_i64 (by omega) (by omega)
  rcases h3:decide (r[i].2>64-(out.length:Int)) with _ | _
  rotate_left
  ·rw[bz (.inr (by simpa using h3))] at hp
   simp only[di] at hp
   have e:spread r = []:=by rw[spread,← hp]; rfl
   rw[e]
   simp only[go_sem,AA _ hi',EY,h2,hw1,h3,dh]
  have h3':r[i].2≤64-(out.length:Int):=by simp at h3; omega
  obtain⟨K,hK⟩:=aP (show 0≤r[i].2 by omega)
  rw[aV (by omega),hK,bY] at hp
  rw[hK] at h2 h3 h2' h3'
  simp only[go_sem,AA _ hi',EY,hK,h2,hw1,h3]
  refine LoopH.mk [20] (A:=Nat) (fun x=>[(6,.c (.v (.int .i64 (x)))),(3,.c (.ref 0))]) (fun x=>[⟨68,3,(out++List.replicate x r[i].1).map DVal.c,true,true⟩,⟨279,4,[EY (r[i].1,(K:Int))],true,true⟩]) (fun x=>x≤K) (fun x=>K-x) 0 (Head.sel [(0,false),(1,false)] ⟨rfl,rfl,OW _,rfl,trivial⟩ (by simp only[List.replicate_zero,bF]; rfl)) (ax _) ?_
  rintro j hj
  have hl2:out.length+j+1≤2147483648:=by omega
  simp only[go_sem,EY]
  refine cndC.mk (fun h=>?_) (fun h=>?_)
  ·have hj':j<K:=by simp[EY] at h; omega
   simp only[go_sem,EY,hl2,qx,wrap_i64 (n:=(j:Int)+1) (by omega) (by omega)]
   exact⟨j+1,Head.sel [(3,false),(1,false)] ⟨rfl,rfl,ABm _ _ _,rfl,trivial⟩ (by rw[pY]; rfl),hj',by omega⟩
  ·have hj':j=K:=by simp[EY] at h; omega
   subst hj'
   simp only[go_sem,EY,wrap_i64 (n:=(i:Int)+1) (by omega) (by omega)]
   exact⟨(i+1,out++List.replicate j r[i].1),Head.sel [(0,false)] ⟨rfl,rfl,OW _,trivial⟩ rfl,⟨hi',by simp; omega,by
    rw[← hp,yV,aW,qx]; congr 1; funext y; simp⟩,by simp only; omega⟩
 ·have hi':i=r.length:=by simp at h; omega
  subst hi'
  rw[aU] at hp
  simp only[Gz,bP,bF] at hp
  have e:spread r=out:=by rw[spread,← hp]; rfl
  rw[e]
  simp only[go_sem]
  try simp[AU,AO]
end Go.Proofs.YtnfbaclikokapaaGreat
