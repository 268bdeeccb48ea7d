/- A part. -/
import Derived.Test.YtnoldekcdlaahaaGreatPYg
set_option linter.unusedSimpArgs false
set_option linter.unusedVariables false
set_option maxHeartbeats 2000000
set_option maxRecDepth 10000
open Go.Proofs.Tryz
namespace Go.Proofs.YtnoldekcdlaahaaGreat
open Go.Vm
theorem yj {l:List DVal} (h:0<l.length):Cm (l.take 1)=l[0].n:=by
 cases l with
 | nil=>simp at h
 | cons v r=>rfl
theorem X9 {l:List DVal} {i:Nat} (h0:0<i) (h:i<l.length):Cm (l.take (i+1))=min (Cm (l.take i)) l[i].n:=by
 cases l with
 | nil=>simp at h
 | cons v r =>
  obtain⟨j,rfl⟩:∃ j,i=j+1:=⟨i-1,AOQ⟩
  have hj:j<r.length:=AOz
  simp only[aa9,abv]
  show (r.take (j+1)).foldl _ _=min ((r.take j).foldl _ _) _
  rw[aas hj,List.foldl_append]
  rfl
theorem uz {l:List DVal} (h:0<l.length):l.foldl (fun n x=>min n x.n) l[0].n=Cm l:=by
 cases l with
 | nil=>simp at h
 | cons v r =>
  show r.foldl _ (min v.n v.n)=r.foldl _ v.n
  rw[show min v.n v.n=v.n from AOQ]
theorem XH:∀ {l:List DVal} {v:DVal},v∈l→Cm l≤v.n∧∃ x∈l,Cm l=x.n:=by
 have key:∀ (r:List DVal) (n:Int),r.foldl (fun n x=>min n x.n) n≤n∧(∀ x∈r,r.foldl (fun n x=>min n x.n) n≤x.n)∧(r.foldl (fun n x=>min n x.n) n=n∨∃ x∈r,r.foldl (fun n x=>min n x.n) n=x.n):=by
  intro r
  induction r with
  | nil=>intro n; simp
  | cons v r ih =>
   intro n
   obtain⟨a1,a2,a3⟩:=ih (min n v.n)
   simp only[abB]
   refine⟨AOQ,fun x hx=>?_, ?_⟩
   ·rcases SK.1 hx with rfl | hx
    ·omega
    ·exact a2 x hx
   ·rcases a3 with a3 | ⟨x,hx,a3⟩
    ·by_cases h:n≤v.n
     ·left; omega
     ·right; exact⟨v,AOR,AOQ⟩
    ·right; exact⟨x,APc,a3⟩
 intro l v hv
 cases l with
 | nil=>cases hv
 | cons w r =>
  obtain⟨a1,a2,a3⟩:=key r w.n
  have e:Cm (w::r)=r.foldl (fun n x=>min n x.n) w.n:=rfl
  rw[e]
  refine⟨?_, ?_⟩
  ·rcases SK.1 hv with rfl | hv
   ·exact a1
   ·exact a2 v hv
  ·rcases a3 with a3 | ⟨x,hx,a3⟩
   ·exact⟨w,AOR,a3⟩
   ·exact⟨x,APc,a3⟩
theorem Y2 {v:DVal} (h:BQ v=true) (h1:v.ty=1) : -1000000000≤v.n∧v.n≤1000000000:=by
 simp only[BQ,bF h1,ay] at h
 simpa [ER,Ad] using h.1
theorem AEC {l:List DVal} (h:typeOf l=1) {v:DVal} (hv:v∈l):0≤v.n-Cm l∧v.n-Cm l≤2000000000:=by
 obtain⟨_,_,q3⟩:=Dk (l:=l) AOQ
 obtain⟨a1,x,hx,a2⟩:=XH hv
 have b1:=Y2 (q3 v hv).1 ((q3 v hv).2.trans h)
 have b2:=Y2 (q3 x hx).1 ((q3 x hx).2.trans h)
 omega
theorem take_snoc' {α:Type} {l:List α} {i:Nat} (h:i<l.length):l.take (i+1)=l.take i ++ [l[i]]:=aas h
theorem AHn (a b:Int):min a b=if b<a then b else a:=by split<;>omega
theorem Kt {α β:Type} (f:α→β) {l:List α} {i:Nat} (h:i<l.length):(l.take (i+1)).map f=(l.take i).map f ++ [f l[i]]:=by
 rw[aas h,WU]; rfl
theorem fC (l:List DVal) (hl:l.length≤1048576):Ctr prog 432 [.c (.sl (l.map DVal.c))] [.val (.c (.v (.int .i64 (Cm l))))]:=by
 refine CM call432 func432 ntmps432 results432 fun hw=>?_
 simp only[go_sem]
 refine ABK 0 (A:=Nat) (fun x=>[(4,.c (.v (.int .i64 (x)))),(3,.c (.v (.int .i64 (Cm (l.take x)))))]) (fun _=>[]) (fun x=>x≤l.length) (fun x=>l.length-x) 0 ⟨⟨rfl,rfl⟩,rfl,aA _⟩ ?_
 rintro i hi
 refine AOJ (fun h=>?_) fun h=>?_
 ·have hi':i<l.length:=by simp at h; omega
  rcases h2:((i:Int)==0) with _ | _
  ·have h2':0<i:=by simp at h2; omega
   rcases h3:decide (l[i].n<Cm (l.take i)) with _ | _
   ·have e:Cm (l.take (i+1))=Cm (l.take i):=by rw[X9 h2' hi']; simp at h3; omega
    exact AMb
   ·have e:Cm (l.take (i+1))=l[i].n:=by rw[X9 h2' hi']; simp at h3; omega
    exact AMb
  ·have h2':i=0:=by simpa using h2
   subst h2'
   have e:Cm (l.take (0+1))=l[0].n:=yj hi'
   simp only[go_sem,AA _ hi',h2,wrap_i64 (n:=((0:Nat):Int)+1) AOQ AOQ]
   exact⟨0+1,⟨rfl,rfl⟩,by rw[e]; rfl,hi',AOQ⟩
 ·have hi':i=l.length:=by simp at h; omega
  subst hi'
  simp only[go_sem,bM]
theorem fD (l:List DVal) (hl:l.length≤1048576):Ctr prog 440 [.c (.sl (l.map DVal.c))] [.val (.c (.v (.int .i64 (Cm l))))]:=by
 refine CM call440 func440 ntmps440 results440 fun hw=>?_
 rcases h1:((l.length:Int)==0) with _ | _
 rotate_left
 ·have:l = []:=by simpa using h1
  have e:Cm l=0:=by rw[this]; rfl
  rw[e]
  simp only[go_sem,h1]
 have h0:0<l.length:=by
  rcases aa6 l.length with h | h
  ·rw[h] at h1; exact absurd h1 AOU
  ·exact h
 simp only[go_sem,h1,AA _ h0]
 refine ABK 0 (A:=Nat) (fun x=>[(15,.c (.v (.int .i64 (x)))),(3,.c (.v (.int .i64 ((l.take x).foldl (fun n x=>min n x.n) l[0].n))))]) (fun _=>[]) (fun x=>x≤l.length) (fun x=>l.length-x) 0 ⟨⟨rfl,rfl⟩,rfl,aA _⟩ ?_
 rintro i hi
 refine AOJ (fun h=>?_) fun h=>?_
 ·have hi':i<l.length:=by simp at h; omega
  simp only[go_sem,AA _ hi',wrap_i64 (n:=(i:Int)+1) AOQ AOQ]
  exact⟨i+1,⟨rfl,rfl⟩,by rw[take_snoc' hi',List.foldl_append,abB,List.foldl_nil,AHn]; rfl,hi',AOQ⟩
 ·have hi':i=l.length:=by simp at h; omega
  subst hi'
  rw[← uz h0]
  simp only[go_sem,bM]
theorem iy (l:List DVal) (hl:l.length≤1048576):Ctr prog 438 [.c (.sl (l.map DVal.c))] [.own 3 1 ((offsets l).map intC) true]:=by
 refine CM call438 func438 ntmps438 results438 fun hw=>?_
 simp only[go_sem]
 refine AAM _ (DF l hl) fun _=>?_
 rcases h1:typeOf l != 1 with _ | _
 ·have h1':typeOf l=1:=by simpa using h1
  obtain⟨q1,q2,q3⟩:=Dk (l:=l) AOQ
  have e:offsets l=l.map fun v=>v.n-Cm l:=bz AOQ
  rw[e]
  simp only[go_sem,h1]
  refine ABZ [6] (A:=Nat) (fun x=>[(13,.c (.v (.int .i64 (x)))),(3,.c (.ref 0))]) (fun x=>[⟨3,1,((l.take x).map fun v=>v.n-Cm l).map intC,true,true⟩]) (fun x=>x≤l.length) (fun x=>l.length-x) 0 (ABJ [(0,false)] ⟨rfl,rfl,rfl,trivial⟩ rfl) (aA _) ?_
  rintro i hi
  refine AOJ (fun h=>?_) fun h=>?_
  ·have hi':i<l.length:=by simp at h; omega
   have ho:=AEC h1' (ax hi')
   have hl2:i+1≤2147483648:=AOQ
   simp only[go_sem,AA _ hi']
   refine AEN 4 6 [0,1,2,3,4,5,6,7,8] [5,6] rfl (by kernel_rfl) rfl (by kernel_rfl) ?_
   simp only[go_sem]
   refine ABH ?_
   simp only[go_sem]
   refine ACI _ (fD l hl) ?_
   simp only[go_sem,hl2,bI,Zl hi,wrap_i64 (n:=l[i].n-Cm l) AOQ AOQ,wrap_i64 (n:=(i:Int)+1) AOQ AOQ]
   exact AMu
  ·have hi':i=l.length:=by simp at h; omega
   subst hi'
   simp only[go_sem,bM]
   try exact AII
 ·have h1':typeOf l≠1:=by simpa using h1
  have e:offsets l = []:=bF h1'
  exact AI6
theorem jA (l:List DVal) (hl:l.length≤1048576):Ctr prog 430 [.c (.sl (l.map DVal.c))] [.own 3 1 ((offsets l).map intC) true]:=by
 refine CM call430 func430 ntmps430 results430 fun hw=>?_
 simp only[go_sem]
 refine AAM _ (Ez l hl) fun _=>?_
 rcases h1:typeOf l != 1 with _ | _
 ·have h1':typeOf l=1:=by simpa using h1
  obtain⟨q1,q2,q3⟩:=Dk (l:=l) AOQ
  have e:offsets l=l.map fun v=>v.n-Cm l:=bz AOQ
  rw[e]
  simp only[go_sem,h1]
  refine AAM _ (fC l hl) fun _=>?_
  simp only[go_sem]
  refine ABZ [6] (A:=Nat) (fun x=>[(5,.c (.v (.int .i64 (x)))),(3,.c (.ref 0))]) (fun x=>[⟨3,1,((l.take x).map fun v=>v.n-Cm l).map intC,true,true⟩]) (fun x=>x≤l.length) (fun x=>l.length-x) 0 (ABJ [(0,false)] ⟨rfl,rfl,rfl,trivial⟩ rfl) (aA _) ?_
  rintro i hi
  refine AOJ (fun h=>?_) fun h=>?_
  ·have hi':i<l.length:=by simp at h; omega
   have ho:=AEC h1' (ax hi')
   have hl2:i+1≤2147483648:=AOQ
   simp only[go_sem,AA _ hi',hl2,bI,Zl hi,wrap_i64 (n:=l[i].n-Cm l) AOQ AOQ,wrap_i64 (n:=(i:Int)+1) AOQ AOQ]
   exact⟨i+1,ABJ [(2,false)] ⟨rfl,rfl,by rw[← GY]; exact CX _,trivial⟩ (by rw[Kt _ hi',GY]; rfl),hi',AOQ⟩
  ·have hi':i=l.length:=by simp at h; omega
   subst hi'
   simp only[go_sem,bM]
   try exact AII
 ·have h1':typeOf l≠1:=by simpa using h1
  have e:offsets l = []:=bF h1'
  exact AI6
def rOk (base x:Int):Prop:=(0≤x∧x≤2000000000)∧base+x≤1000000000
theorem XI {base:Int} {l:List Int} (h:¬ (-1000000000≤base∧base≤1000000000)):raised base l=none:=bz fun q=>h q.1
theorem P6 {base:Int} {l:List Int} {i:Nat} (hi:i<l.length) (h:¬ rOk base l[i]):raised base l=none:=bz fun q=>h (q.2 _ (ax hi))
theorem fE {base:Int} {l:List Int} (h : -1000000000≤base∧base≤1000000000) (h2:∀ i (hi:i<l.length),rOk base l[i]):raised base l=some (l.map fun x=>⟨1,base+x,ByteArray.empty⟩):=bF ⟨h,fun x hx=>by
 obtain⟨i,hi,rfl⟩:=aaC hx
 exact h2 i hi⟩
theorem EH (x:Int):ER x=true↔ -1000000000≤x∧x≤1000000000:=by simp[ER,Ad]
theorem oz (base:Int) (l:List Int) (hl:l.length≤1048576):Ctr prog 424 [.c (.v (.int .i64 (base))),.c (.sl (l.map intC))] (Dv (raised base l)):=by
 refine CM call424 func424 ntmps424 results424 fun hw=>?_
 simp only[go_sem]
 refine AAM _ (NC _) fun _=>?_
 rcases h1:ER base with _ | _
 ·exact AOB
 have hb:=(EH base).1 h1
 simp only[go_sem,h1]
 refine ABZ [12] (A:=Nat) (fun x=>[(15,.c (.v (.int .i64 (x)))),(6,.c (.ref 0))]) (fun x=>[⟨64,3,((l.take x).map fun(x:Int)=>(⟨1,base+x,ByteArray.empty⟩:DVal)).map DVal.c,true,true⟩]) (fun x=>x≤l.length∧∀ m (h:m<l.length),m<x→rOk base l[m]) (fun x=>l.length-x) 0 (ABJ [(0,false)] ⟨rfl,rfl,rfl,trivial⟩ rfl) ⟨aA _,fun m h h2=>AOQ⟩ ?_
 rintro i ⟨hi,hok⟩
 refine AOJ (fun h=>?_) fun h=>?_
 ·have hi':i<l.length:=by simp at h; omega
  simp only[go_sem,AA _ hi']
  refine AAM _ (AL _ _ _) fun _=>?_
  rcases h2:Ad l[i] 0 2000000000 with _ | _
  ·rw[P6 hi' (fun q=>by have:=q.1; simp[Ad] at h2; omega)]
   exact ANE
  have h2':0≤l[i]∧l[i]≤2000000000:=AOa
  rcases h3:decide (base+l[i]>1000000000) with _ | _
  ·have hl2:i+1≤2147483648:=by omega
   simp only[go_sem,AA _ hi',h2,h3,hl2,wrap_i64 (n:=base+l[i]) AOQ AOQ,wrap_i64 (n:=(i:Int)+1) AOQ AOQ,bI,Zl hi]
   exact⟨i+1,ABJ [(2,false)] ⟨rfl,rfl,MV _ ⟨1,base+l[i],ByteArray.empty⟩,trivial⟩ (by rw[Kt _ hi',GZ]; rfl),⟨hi',fun m h4 h5=>by
    by_cases e:m=i
    ·subst e; exact⟨h2',APC⟩
    ·exact hok m h4 AOQ⟩,AOQ⟩
  ·exact AMR
 ·have hi':i=l.length:=by simp at h; omega
  subst hi'
  rw[fE hb fun m hm=>hok m hm hm]
  simp only[go_sem,Dv,bM]
  try exact AII
theorem Vp (base:Int) (l:List Int) (hl:l.length≤1048576):Ctr prog 417 [.c (.v (.int .i64 (base))),.c (.sl (l.map intC))] (Dv (raised base l)):=by
 refine CM call417 func417 ntmps417 results417 fun hw=>?_
 simp only[go_sem]
 refine ABZ [8] (A:=Nat) (fun x=>[(7,.c (.v (.int .i64 (x)))),(6,.c (.ref 0))]) (fun x=>[⟨64,3,((l.take x).map fun(x:Int)=>(⟨1,base+x,ByteArray.empty⟩:DVal)).map DVal.c,true,true⟩]) (fun x=>x≤l.length∧(0<x→ -1000000000≤base∧base≤1000000000)∧∀ m (h:m<l.length),m<x→rOk base l[m]) (fun x=>l.length-x) 0 (ABJ [(0,false)] ⟨rfl,rfl,rfl,trivial⟩ rfl) ⟨aA _,fun h=>AOQ,fun m h h2=>AOQ⟩ ?_
 rintro i ⟨hi,hbs,hok⟩
 refine AOJ (fun h=>?_) fun h=>?_
 ·have hi':i<l.length:=by simp at h; omega
  simp only[go_sem]
  refine AAM _ (Je _) fun _=>?_
  rcases h1:ER base with _ | _
  ·exact AOB
  have hb:=(EH base).1 h1
  simp only[go_sem,h1,AA _ hi']
  refine AAM _ (AO _ _ _) fun _=>?_
  rcases h2:Ad l[i] 0 2000000000 with _ | _
  ·rw[P6 hi' (fun q=>by have:=q.1; simp[Ad] at h2; omega)]
   exact ANE
  have h2':0≤l[i]∧l[i]≤2000000000:=AOa
  rcases h3:decide (base+l[i]>1000000000) with _ | _
  ·have hl2:i+1≤2147483648:=by omega
   simp only[go_sem,AA _ hi',h2,h3,hl2,wrap_i64 (n:=base+l[i]) AOQ AOQ,wrap_i64 (n:=(i:Int)+1) AOQ AOQ,bI,Zl hi]
   exact⟨i+1,ABJ [(2,false)] ⟨rfl,rfl,MV _ ⟨1,base+l[i],ByteArray.empty⟩,trivial⟩ (by rw[Kt _ hi',GZ]; rfl),⟨hi',fun _=>hb,fun m h4 h5=>by
    by_cases e:m=i
    ·subst e; exact⟨h2',APC⟩
    ·exact hok m h4 AOQ⟩,AOQ⟩
  ·exact AMR
 ·have hi':i=l.length:=by simp at h; omega
  subst hi'
  simp only[go_sem,bM]
  refine AAM _ (Je _) fun _=>?_
  rcases h1:ER base with _ | _
  ·rw[XI (by rw[← EH,h1]; simp)]
   have:l = []:=by
    by_cases h0:0<l.length
    ·have:=(EH base).2 (hbs h0); rw[h1] at this; cases this
    ·cases l<;>simp_all
   subst this
   simp only[go_sem,h1,Dv]
   try simp[BJ]
  have hb:=(EH base).1 h1
  rw[fE hb fun m hm=>hok m hm hm]
  simp only[go_sem,h1,Dv]
  try exact AII
end Go.Proofs.YtnoldekcdlaahaaGreat
