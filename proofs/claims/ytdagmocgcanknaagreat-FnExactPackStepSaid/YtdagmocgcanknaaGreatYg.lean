/- A part. -/
import Derived.Test.YtdagmocgcanknaaGreatYf
set_option linter.unusedSimpArgs false
set_option linter.unusedVariables false
set_option maxHeartbeats 2000000
set_option maxRecDepth 10000
open Go.Proofs.Tryz
namespace Go.Proofs.YtdagmocgcanknaaGreat
open Go.Vm
theorem AHl:GL []=true:=rfl
attribute [go_sem] AHl EI Qa CX CQ AQ Ce AHi
theorem OC:∀ {b:List Int},kE (b.map byteC)->Ai b
 | [],_=>by simp[Ai]
 | c::b,h=>by
  simp only[ao,kE,PI,Xa,uO] at h;intro x hx;rcases TM.1 hx with rfl | hx
  .have:=h.1.1;simp only[Qv,Lit.wf,ar,aQ] at this;simp[IntKind.min,IntKind.max,IntKind.bits,IntKind.signed] at this;unfold isByte;omega
  .exact OC h.2 x hx
theorem ACN {a b:List Int} (ha:Ai a) (hb:Ai b):(strOfNums a=strOfNums b)↔a=b:=by
 constructor
 .intro h;rw[<- pF ha,<- pF hb,h]
 .rintro rfl; rfl
theorem Dt {l:List DVal} (h:typeOf l≠0):1<=l.length/\l.length<=64/\∀ v∈l,BX v=true/\v.ty=typeOf l:=by
 cases l with
 | nil=>exact absurd rfl h
 | cons v r =>
  have e:typeOf (v::r)=if(v::r).length<=64/\∀ x∈(v::r),BX x=true/\x.ty=v.ty then v.ty else 0:=rfl
  rw[e] at h ⊢
  split at h
  .rename_i h1
   rw[aV h1]
   exact⟨AOm,h1.1,h1.2⟩
  .exact absurd rfl h
theorem Di (n:Int):(Ey n).length<=5:=Zj 4 _
theorem WP {v:DVal} (h:BX v=true):(WB v).length<=7:=by
 unfold WB;split
 .have:=Di v.n; omega
 .rename_i h3;have:v.s.size<=6:=by simp only[BX,aR h3,ar,aQ] at h;exact h.1.2
  simp[AEC]; omega
theorem LZ:∀ {l:List DVal},(∀ v∈l,BX v=true)->(KN l).length<=7*l.length
 | [],_=>by simp[KN]
 | v::l,h=>by have h1:=WP (h v AOm);have h2:=LZ fun x hx=>h x (abg v hx);simp only[KN,ao,XV,aP,ag] at h1 h2 ⊢;omega
theorem Ti {v:DVal} (h:BX v=true):jJ v=WB v:=by simp only[jJ,h,aO]
theorem Ip {n:Int} (h:EE n=true):ZG n=Ey n:=by simp only[ZG,h,aO]
theorem Qd {l:List DVal} {i:Nat} (h:i<l.length):KN (l.take (i+1))=KN (l.take i)++WB l[i]:=by rw[aap h];simp only[KN,bl,aaD,ao,ap,XV,aaH,bc]
theorem fV {l:List Int} {i:Nat} (h:i<l.length):((l.take (i+1)).map Ey).flatten=((l.take i).map Ey).flatten++Ey l[i]:=by rw[aap h];simp only[bl,aaD,ao,ap,XV,aaH,bc]
theorem NW:∀ l:List Int,((l.map Ey).flatten).length<=5*l.length
 | []=>AOm
 | n::l=>by have h1:=Di n;have h2:=NW l;simp only[ao,XV,aP,ag];omega
theorem jK (b:List Int) (l:List Int) (hl:l.length<=100000) (hb:b.length<=100000) (hn:∀ n∈l,EE n=true):Ctr prog 265 [.c (.sl (b.map byteC)),.c (.sl (l.map intC))] [.own 5 1 ((b++JM l).map byteC) true]:=by
 refine CM call265 func265 ntmps265 results265 fun hw=>?_;have h1:decide ((l.length:Int)>1000000000)=false:=AOn;simp only[go_sem];refine AAO _ (GX b AOl) fun _=>?_;simp only[go_sem,h1];refine AAe 1 (A:=Nat) (fun x=>[(18,.c (.v (.int .i64 (x))))]) (fun _=>[⟨5,1,b.map byteC,true,true⟩]) (fun x=>x<=l.length) (fun x=>l.length-x) 0 ⟨⟨rfl,all1 (AX (CQ _))⟩,rfl,aq _⟩ ?_;rintro i hi;refine AOd (fun h=>?_) fun h=>?_
 .have hi':i<l.length:=by simp at h; omega
  have hok:=hn _ (an hi');simp only[go_sem,AA _ hi'];refine AAO _ (Nj _) fun _=>?_;simp only[go_sem,hok,wrap_i64 (n:=(i:Int)+1) AOl AOl];exact⟨i+1,⟨rfl,all1 (AX (CQ _))⟩,rfl,hi',AOl⟩
 .simp only[go_sem];refine AAO _ (Gy b _ AOl) fun _=>?_;rw[Ip (by simp[EE,Ae]; omega)];simp only[go_sem];have hq:=Di (l.length:Int);refine AAv [11,27,30] (A:=Nat) (fun x=>[(33,.c (.v (.int .i64 (x)))),(5,.c (.ref 0))]) (fun x=>[⟨5,1,(b++Ey l.length++((l.take x).map Ey).flatten).map byteC,true,true⟩]) (fun x=>x<=l.length) (fun x=>l.length-x) 0 (AAS [(1,false)] ⟨rfl,rfl,EI _,trivial⟩ AQV) (aq _) ?_;rintro i hi;refine AOd (fun h=>?_) fun h=>?_
  .have hi':i<l.length:=by simp at h; omega
   have hok:=hn _ (an hi');have hq2:=NW (l.take i);rw[aU] at hq2;simp only[go_sem,AA _ hi',EI];refine AAO _ (Gy _ _ APK) fun _=>?_;exact AL0
  .have hi':i=l.length:=by simp at h; omega
   subst hi';simp only[go_sem,CQ,JM,aX,ba];try exact AIG
theorem OD (l:List DVal) (hl:l.length<=1048576):Ctr prog 327 [.c (.sl (l.map DVal.c))] [.own 5 1 ((Ep l).map byteC) true]:=by
 refine CM call327 func327 ntmps327 results327 fun hw=>?_;simp only[go_sem];refine AAO _ (DN l hl) fun _=>?_;rcases h1:typeOf l==0 with _ | _
 .have h1':typeOf l≠0:=by simpa using h1
  obtain⟨q1,q2,q3⟩:=Dt h1';simp only[go_sem,h1,Ep,h1'];refine AAv [6] (A:=Nat) (fun x=>[(13,.c (.v (.int .i64 (x)))),(3,.c (.ref 0))]) (fun x=>[⟨5,1,(KN (l.take x)).map byteC,true,true⟩]) (fun x=>x<=l.length) (fun x=>l.length-x) 0 (AAS [(0,false)] ⟨rfl,rfl,rfl,trivial⟩ rfl) (aq _) ?_;rintro i hi;refine AOd (fun h=>?_) fun h=>?_
  .have hi':i<l.length:=by simp at h; omega
   have hok:=(q3 _ (an hi')).1;have hq2:=LZ (l:=l.take i) fun v hv=>(q3 v (uF hv)).1;rw[aU] at hq2;simp only[go_sem,AA _ hi',EI];refine AAO _ (Qb _ _ AOl) fun _=>?_;rw[Ti hok,<- Qd hi'];exact AMj
  .have hi':i=l.length:=by simp at h; omega
   subst hi';simp only[go_sem,CQ,aX,ax,aL];try exact AIG
 .have h1':typeOf l=0:=by simpa using h1
  have e:Ep l = []:=aV h1';exact AJ8
theorem SI (l:List DVal) (hl:l.length<=1048576):Ctr prog 315 [.c (.sl (l.map DVal.c))] [.own 5 1 ((Ep l).map byteC) true]:=by
 refine CM call315 func315 ntmps315 results315 fun hw=>?_;simp only[go_sem];refine AAO _ (FB l hl) fun _=>?_;rcases h1:typeOf l==0 with _ | _
 .have h1':typeOf l≠0:=by simpa using h1
  obtain⟨q1,q2,q3⟩:=Dt h1';simp only[go_sem,h1,Ep,h1'];refine AAv [5] (A:=Nat) (fun x=>[(4,.c (.v (.int .i64 (x)))),(3,.c (.ref 0))]) (fun x=>[⟨5,1,(KN (l.take x)).map byteC,true,true⟩]) (fun x=>x<=l.length) (fun x=>l.length-x) 0 (AAS [(0,false)] ⟨rfl,rfl,rfl,trivial⟩ rfl) (aq _) ?_;rintro i hi;refine AOd (fun h=>?_) fun h=>?_
  .have hi':i<l.length:=by simp at h; omega
   have hok:=(q3 _ (an hi')).1;have hq2:=LZ (l:=l.take i) fun v hv=>(q3 v (uF hv)).1;rw[aU] at hq2;simp only[go_sem,AA _ hi',EI];refine AAO _ (Qc _ _ AOl) fun _=>?_;rw[Ti hok,<- Qd hi'];simp only[go_sem,wrap_i64 (n:=(i:Int)+1) AOl AOl];exact⟨i+1,AAS [(1,false)] ⟨rfl,rfl,EI _,trivial⟩ rfl,hi',AOl⟩
  .have hi':i=l.length:=by simp at h; omega
   subst hi';simp only[go_sem,CQ,aX,ax,aL];try exact AIG
 .have h1':typeOf l=0:=by simpa using h1
  have e:Ep l = []:=aV h1';exact AJ8
def AEM:Option (List DVal×Nat)->List Res
 | some (l,q)=>[.own 112 3 (l.map DVal.c) true,.val (.c (.v (.int .i64 ((q:Int))))),.val (.c (.v (.bool (true))))]
 | none=>[.own 112 3 [] true,.val (.c (.v (.int .i64 (0)))),.val (.c (.v (.bool (false))))]
theorem G5 (out:List DVal) (v:DVal):(out ++ [v]).map DVal.c=out.map DVal.c ++ [v.c]:=AOm
theorem NQ (l:List DVal) (n:DVal):GL (l.map DVal.c ++ [n.c])=true:=by rw[<- G5]; exact Qa _
theorem WQ (b:List Int) (p:Nat) (ty k:Int) (hb:Ai b) (hl:b.length<=1048576) (hk:k<=64):Ctr prog 345 [.c (.sl (b.map byteC)),.c (.v (.int .i64 ((p:Int)))),.c (.v (.int .i64 (ty))),.c (.v (.int .i64 (k)))] (AEM (Cc b ty k.toNat p)):=by
 refine CM call345 func345 ntmps345 results345 fun hw=>?_;simp only[go_sem];refine AAv [16] (A:=Nat×Nat×List DVal) (fun x=>[(12,.c (.v (.int .i64 (x.1)))),(11,.c (.ref 0)),(1,.c (.v (.int .i64 ((x.2.1:Int)))))]) (fun x=>[⟨112,3,x.2.2.map DVal.c,true,true⟩]) (fun x=>x.1<=k.toNat/\x.2.2.length=x.1/\(Cc b ty (k.toNat-x.1) x.2.1).map (fun y=>(x.2.2++y.1,y.2))=Cc b ty k.toNat p) (fun x=>k.toNat-x.1) (0,p,[]) (AAS [(0,false)] ⟨rfl,rfl,rfl,trivial⟩ rfl) ⟨aq _,rfl,AOm⟩ ?_;rintro⟨i,q',l⟩ ⟨hi,hll,hb2⟩;dsimp only at hi hll hb2;refine AOd (fun h=>?_) fun h=>?_
 .have hi':i<k.toNat:=by simp at h; omega
  rw[show k.toNat-i=(k.toNat-(i+1))+1 from AOl,Cc] at hb2;have hg2:=WO b q' ty hb hl;simp only[go_sem];rcases h3:F8 b q' ty with _ | ⟨n,q2⟩<;>rw[h3] at hg2 hb2<;>simp only[fU] at hg2
  .refine AAO _ hg2 fun _=>?_;simp only[W_] at hb2;rw[<- hb2];simp only[go_sem,AEM];try simp[DR]
  .exact ALA
 .have hi':i=k.toNat:=by simp at h; omega
  subst hi';rw[jv,Cc] at hb2;simp only[bi,bc] at hb2;rw[<- hb2];simp only[go_sem,AEM,Ce];try exact AIG
def Dx:Option (List DVal)->List Res
 | some l=>[.val (.c (.sl (l.map DVal.c))),.val (.c (.v (.bool (true))))]
 | none=>[.val (.c (.sl [])),.val (.c (.v (.bool (false))))]
theorem AAz {a b:List Int} (ha:Ai a) (hb:Ai b):((strOfNums a).toList==(strOfNums b).toList)=decide (a=b):=by rw[Bool.eq_iff_iff,qX,aQ,<- ACN ha hb];exact⟨zC,fun h=>by rw[h]⟩
theorem MX (a b:List Int):Ctr prog 293 [.c (.sl (a.map byteC)),.c (.sl (b.map byteC))] [.val (.c (.v (.bool (decide (a=b)))))]:=by refine CM call293 func293 ntmps293 results293 fun hw=>?_;exact AOM
theorem JA (a b:List Int):Ctr prog 312 [.c (.sl (a.map byteC)),.c (.sl (b.map byteC))] [.val (.c (.v (.bool (decide (a=b)))))]:=by refine CM call312 func312 ntmps312 results312 fun hw=>?_;exact AOM
theorem Cj (b:List Int) (k:Int) (l:List DVal) (e:List Int):Ctr prog 325 [.c (.sl (b.map byteC)),.c (.v (.int .i64 (k))),.c (.sl (l.map DVal.c)),.c (.sl (e.map byteC))] (Dx (again b k l e)):=by
 refine CM call325 func325 ntmps325 results325 fun hw=>?_;simp only[go_sem];refine AAO _ (AL _ _ _) fun _=>?_;rcases h1:Ae k 1 64 with _ | _
 .have:again b k l e=none:=aR APU;simp only[go_sem,h1,this,Dx]
 have h1':1<=k/\k<=64:=APU;simp only[go_sem,h1];rcases h2:(l.length:Int) != k with _ | _
 .have h2':(l.length:Int)=k:=by simpa using h2
  simp only[go_sem,h2];refine AAO _ (MX b e) fun _=>?_;rcases h3:decide (b=e) with _ | _
  .have:again b k l e=none:=aR (fun q=>by simp at h3; exact h3 q.2.2.2);simp only[go_sem,h3,this,Dx]
  .have:again b k l e=some l:=aV ⟨h1'.1,h1'.2,h2',AO7⟩;simp only[go_sem,h3,this,Dx]
 .have:again b k l e=none:=aR AO3;simp only[go_sem,h2,this,Dx]
theorem fZ (b:List Int) (ty k:Int) (hb:Ai b) (hl:b.length<=1048576):Ctr prog 307 [.c (.sl (b.map byteC)),.c (.v (.int .i64 (ty))),.c (.v (.int .i64 (k)))] (Dx (Gu b ty k)):=by
 refine CM call307 func307 ntmps307 results307 fun hw=>?_;simp only[go_sem];refine AAO _ (AP _ _ _) fun _=>?_;rcases h2:Ae k 1 64 with _ | _
 .have:Gu b ty k=none:=aR AOw;simp only[go_sem,h2,this,Dx];try simp[DR]
 have h2':1<=k/\k<=64:=AOw
 have hall:Gu b ty k=match Cc b ty k.toNat 0 with
  | none=>none
  | some (l,q)=>if q=b.length then some l else none:=aV h2'
 simp only[go_sem,h2];refine AAv [14] (A:=Nat×Nat×List DVal) (fun x=>[(10,.c (.v (.int .i64 (x.1)))),(8,.c (.ref 0)),(9,.c (.v (.int .i64 ((x.2.1:Int)))))]) (fun x=>[⟨112,3,x.2.2.map DVal.c,true,true⟩]) (fun x=>x.1<=k.toNat/\x.2.2.length=x.1/\(Cc b ty (k.toNat-x.1) x.2.1).map (fun y=>(x.2.2++y.1,y.2))=Cc b ty k.toNat 0) (fun x=>k.toNat-x.1) (0,0,[]) (AAS [(0,false)] ⟨rfl,rfl,rfl,trivial⟩ rfl) ⟨aq _,rfl,AOm⟩ ?_;rintro⟨i,q',l⟩ ⟨hi,hll,hb2⟩;dsimp only at hi hll hb2;refine AOd (fun h=>?_) fun h=>?_
 .have hi':i<k.toNat:=by simp at h; omega
  rw[show k.toNat-i=(k.toNat-(i+1))+1 from AOl,Cc] at hb2;have hg2:=NP b q' ty hb hl;simp only[go_sem];rcases h3:F8 b q' ty with _ | ⟨n,q2⟩<;>rw[h3] at hg2 hb2<;>simp only[fU] at hg2
  .refine AAO _ hg2 fun _=>?_;simp only[W_] at hb2;rw[hall,<- hb2];simp only[go_sem,Dx];try simp[DR]
  .exact ALA
 .have hi':i=k.toNat:=by simp at h; omega
  subst hi';rw[jv,Cc] at hb2;simp only[bi,bc] at hb2;rw[hall,<- hb2];rcases h4:((q':Int) != (b.length:Int)) with _ | _
  .have h4':q'=b.length:=by simp at h4; omega
   simp only[go_sem,h4,aV h4',Dx];try exact AIG
  .have h4':¬ q'=b.length:=by simp at h4; omega
   simp only[go_sem,h4,aR h4',Dx];try simp[DR]
theorem f_ (b:List Int) (ty k:Int) (hb:Ai b) (hl:b.length<=1048576):Ctr prog 320 [.c (.sl (b.map byteC)),.c (.v (.int .i64 (ty))),.c (.v (.int .i64 (k)))] (Dx (Gu b ty k)):=by
 rw[<- Yk hb];refine CM call320 func320 ntmps320 results320 fun hw=>?_;simp only[go_sem];refine AAO _ (AL _ _ _) fun _=>?_;rcases h2:Ae k 1 64 with _ | _
 .have:Pm b ty k=none:=aR AOw;simp only[go_sem,h2,this,Dx];try simp[DR]
 have h2':1<=k/\k<=64:=AOw;simp only[go_sem,h2];have hg:=WQ b 0 ty k hb hl h2'.2;have hall:Pm b ty k=again b k (((Cc b ty k.toNat 0).map Prod.fst).getD []) (Ep (((Cc b ty k.toNat 0).map Prod.fst).getD [])):=aV h2';rw[hall];rcases h3:Cc b ty k.toNat 0 with _ | ⟨l,q⟩<;>rw[h3] at hg<;>simp only[AEM] at hg<;>simp only[W_,bi,ww,au]
 .refine AAO _ hg fun _=>?_;simp only[go_sem];refine AAO _ (OD [] AOm) fun _=>?_;simp only[go_sem];refine AAO _ (Cj b k [] (Ep [])) fun _=>?_;rcases h4:again b k [] (Ep []) with _ | l'<;>simp only[go_sem,Dx]
 .refine AAO _ hg fun _=>?_;simp only[go_sem];have hlen:=(Jq hb _ _ _ _ (aq _) h3).2.2.1;refine AAO _ (OD l AOl) fun _=>?_;simp only[go_sem];refine AAO _ (Cj b k l (Ep l)) fun _=>?_;rcases h4:again b k l (Ep l) with _ | l'<;>simp only[go_sem,Dx]
