/- A part. -/
import Derived.Test.YtdagmocgcanknaaGreatJd
import Derived.Test.YtdagmocgcanknaaGreatEy
set_option linter.unusedSimpArgs false
set_option linter.unusedVariables false
set_option maxHeartbeats 2000000
set_option maxRecDepth 10000
open Go.Proofs.Tryz
namespace Go.Proofs.YtdagmocgcanknaaGreat
open Go.Vm
@[go_sem] theorem AIb {n:Nat} {d:Departure}:Region.binds .any ⟨n,.textOnly d⟩=false:=rfl
@[go_sem] theorem AJs {n:Nat} {d:Departure}:Region.binds .any ⟨n,.gcOnly d⟩=false:=rfl
theorem vV {p:Nat->Bool} {n k:Nat} (hk:k<n) (h:p k=true) (hb:∀ i,i<k->p i=false):(List.range n).find? p=some k:=by rw[List.find?_range_eq_some];exact⟨h,abj.2 hk,fun j hj=>by simp[hb j hj]⟩
theorem Xx {p:Nat->Bool} {n:Nat} (hb:∀ i,i<n->p i=false):(List.range n).find? p=none:=by rw[List.find?_eq_none];intro x hx;simp[hb x (abj.1 hx)]
def UM (w:DWorld) (i:Nat):DRef:=(w.d.l[i]?).getD ⟨0,0,0,0,0⟩
theorem Po {w:DWorld} {i:Nat} (h:i<w.d.l.length):UM w i=w.d.l[i]:=by simp[UM,h]
def pw1 (w:DWorld) (i:Nat):Bool:=(BO w (UM w i)).2&&KF (BO w (UM w i)).1 w.t
noncomputable def Ym (w:DWorld) (r:DRef):Int:=if(r.kind==2&&there w r)=true then((Dc w r).length:Int) else -1
noncomputable def ku (w:DWorld) (i:Nat):Bool:=decide (i+1<w.d.l.length)&&(decide (Ym w (UM w i)>=0)&&(decide (Ym w (UM w (i+1))>=0)&&decide (Ym w (UM w i)+Ym w (UM w (i+1))<=12)))
noncomputable def BN (w:DWorld):Int×Int:=match (List.range w.d.l.length).find? (pw1 w) with
 | some i=>(i,1)
 | none=>match (List.range w.d.l.length).find? (ku w) with
  | some i=>(i,2)
  | none=>(-1,0)
theorem AAu {w:DWorld} (hf:AU w):w.d.l.length<=1048576:=by rw[AZ] at hf;have:=hf.2.1;rw[GU] at this;exact this
theorem ACI (w:DWorld) (r:DRef) (hf:AU w):(BO w r).1.l.length<=1048576:=by
 unfold BO;rcases DZ w r.buf with ⟨k,hk,hb,hat⟩ | ⟨hb,hat⟩
 .rw[hat];have:=(Jh hf hk).1;rw[CO] at this;dsimp only;split
  .exact this.1
  .simp[Gp]
 .rw[hat]; simp[Gp]
theorem SC {cs b:List Int} {l:List DRow} (h:C_ cs b=some l):DD cs l=true:=by
 unfold C_ at h;split at h
 .cases h
 .split at h
  .split at h
   .cases h
   .split at h
    .rename_i h2;cases h;exact h2.2
    .cases h
  .cases h
theorem Oq (w:DWorld) (r:DRef):(Dc w r).length<=12:=by
 unfold Dc;split
 .simp
 .rename_i b hb;rcases h:C_ w.c0.cols b.g with _ | l
  .simp
  .simp only[au];exact(IU (SC h)).2.1
theorem vW {w:DWorld} {k:Nat} (hk:k<w.d.l.length) (h:pw1 w k=true) (hb:∀ i,i<k->pw1 w i=false):BN w=((k:Int),1):=by unfold BN;rw[vV hk h hb]
theorem vX {w:DWorld} {k:Nat} (h0:∀ i,i<w.d.l.length->pw1 w i=false) (hk:k<w.d.l.length) (h:ku w k=true) (hb:∀ i,i<k->ku w i=false):BN w=((k:Int),2):=by unfold BN;rw[Xx h0,vV hk h hb]
theorem kw {w:DWorld} (h0:∀ i,i<w.d.l.length->pw1 w i=false) (hb:∀ i,i<w.d.l.length->ku w i=false):BN w=(-1,0):=by unfold BN;rw[Xx h0,Xx hb]
theorem SE (w:DWorld) (hf:AU w):Ctr prog 103 [.agg w.c] [.val (.c (.v (.int .i64 ((BN w).1)))),.val (.c (.v (.int .i64 ((BN w).2))))]:=by
 refine CM call103 func103 ntmps103 results103 fun hw=>?_;have hrl:=AAu hf;simp only[go_sem];refine AAe 1 (A:=Nat) (fun x=>[(16,.c (.v (.int .i64 (x))))]) (fun _=>[⟨44,14,[w.c],true,true⟩]) (fun x=>x<=w.d.l.length/\∀ i,i<x->pw1 w i=false) (fun x=>w.d.l.length-x) 0 ⟨⟨rfl,rfl⟩,rfl,aq _,fun i h=>AOl⟩ ?_;rintro k ⟨hk,hall⟩;refine AOd (fun h=>?_) fun h=>?_
 .have hk':k<w.d.l.length:=by simpa using h
  have hp:pw1 w k=((BO w w.d.l[k]).2&&KF (BO w w.d.l[k]).1 w.t):=by unfold pw1; rw[Po hk']
  simp only[go_sem,AA _ hk',hk'];refine CW (Ja w w.d.l[k]) fun _=>?_;have hcl:=ACI w w.d.l[k] hf;generalize (BO w w.d.l[k]).1=c at hp hcl ⊢;generalize (BO w w.d.l[k]).2=ok at hp ⊢;rcases ok with _ | _
  .simp only[go_sem,wrap_i64 (n:=(k:Int)+1) AOl AOl]
   exact⟨k+1,⟨rfl,rfl⟩,rfl,⟨hk',fun i h2=>by
    by_cases e:i=k
    .subst e; rw[hp]; rfl
    .exact hall i AOl⟩,AOl⟩
  .simp only[go_sem];try refine AAP ?_
   try simp only[go_sem]
   first | refine CY (RP c w.t hcl) ?_ | refine CW (RP c w.t hcl) fun _=>?_
   rcases hc:KF c w.t with _ | _
   .simp only[go_sem,hc,wrap_i64 (n:=(k:Int)+1) AOl AOl]
    exact⟨k+1,⟨rfl,rfl⟩,rfl,⟨hk',fun i h2=>by
     by_cases e:i=k
     .subst e; rw[hp,hc]; rfl
     .exact hall i AOl⟩,AOl⟩
   .rw[vW hk' (by rw[hp,hc]; rfl) hall];simp only[go_sem,hc]
 .have hk':k=w.d.l.length:=by simp at h; omega
  subst hk';simp only[go_sem];refine AAe 1 (A:=Nat) (fun x=>[(8,.c (.v (.int .i64 (x))))]) (fun _=>[⟨44,14,[w.c],true,true⟩]) (fun x=>x<=w.d.l.length/\∀ i,i<x->ku w i=false) (fun x=>w.d.l.length-x) 0 ⟨⟨rfl,rfl⟩,rfl,aq _,fun i h=>AOl⟩ ?_;rintro k ⟨hk,hall2⟩;simp only[go_sem,wrap_i64 (n:=(k:Int)+1) AOl AOl];refine AAQ (fun h=>?_) (fun h=>?_)
  .have hk':k+1<w.d.l.length:=by simp at h; omega
   have hk0:k<w.d.l.length:=AOl;have e1:((k:Int)+1)=((k+1:Nat):Int):=AOl;have hp:ku w k=(decide (Ym w w.d.l[k]>=0)&&(decide (Ym w w.d.l[k+1]>=0)&&decide (Ym w w.d.l[k]+Ym w w.d.l[k+1]<=12))):=by unfold ku; rw[Po hk0,Po hk']; simp[hk']
   have hw1:IntKind.i64.wrap ((k+1:Nat):Int)=((k+1:Nat):Int):=wrap_i64 AOl AOl;have hwk:IntKind.i64.wrap ((k:Int)+1)=(k:Int)+1:=wrap_i64 AOl AOl
   have hn1:ku w k=false->∀ i,i<k+1->ku w i=false:=fun h i h2=>by
    by_cases e:i=k
    .subst e; exact h
    .exact hall2 i AOl
   have ga:=Oq w w.d.l[k];have gb:=Oq w w.d.l[k+1];have sa:=Cf w w.d.l[k];have sb:=Cf w w.d.l[k+1];have ra:=IL w w.d.l[k] hf;have rb:=IL w w.d.l[k+1] hf;have ha:=AA DRef.c hk0;have hb:=AA DRef.c hk';unfold Ym at hp;generalize w.d.l[k]=a at hp ga sa ra ha;generalize w.d.l[k+1]=b at hp gb sb rb hb;simp only[go_sem,e1,hw1,ha,hb];refine ACb 13 14 [0,1,2,3,4,5,6,7,8,9,10,11,12,13,14,15,16] [0,1,2,3,4,5,6,7,8,9,10,11,12,14,13,15,16] rfl (by kernel_rfl) (by kernel_rfl) ?_ ?_
   all_goals
    simp only[go_sem]
    refine AAR ?_
    simp only[go_sem,e1,hw1,ha,hb]
    rcases ka:a.kind==2 with _ | _
    .simp only[go_sem,ka]
     refine AAP ?_
     simp only[go_sem,hwk]
     exact⟨k+1,⟨rfl,rfl⟩,rfl,⟨AOl,hn1 (by rw[hp,ka]; rfl)⟩,AOl⟩
    rcases kb:b.kind==2 with _ | _
    .simp only[go_sem,ka,kb]
     refine AAP ?_
     simp only[go_sem,hwk]
     exact⟨k+1,⟨rfl,rfl⟩,rfl,⟨AOl,hn1 (by rw[hp,kb]; simp)⟩,AOl⟩
    simp only[go_sem,ka,kb]
    refine CW (sa) fun _=>?_
    rcases ta:there w a with _ | _
    .simp only[go_sem,ta]
     refine AAP ?_
     simp only[go_sem,hwk]
     exact⟨k+1,⟨rfl,rfl⟩,rfl,⟨AOl,hn1 (by rw[hp,ta]; simp)⟩,AOl⟩
    simp only[go_sem,ta]
    refine CW (sb) fun _=>?_
    rcases tb:there w b with _ | _
    .simp only[go_sem,tb]
     refine AAP ?_
     simp only[go_sem,hwk]
     exact⟨k+1,⟨rfl,rfl⟩,rfl,⟨AOl,hn1 (by rw[hp,tb]; simp)⟩,AOl⟩
    simp only[go_sem,tb]
    refine AAP ?_
    simp only[go_sem,tb]
    simp only[ka,ta,Bool.and_self,aO] at ra hp
    simp only[kb,tb,Bool.and_self,aO] at rb hp
    refine CY (ra) ?_
    simp only[go_sem,tb]
    refine CY (rb) ?_
    have hp2:ku w k=decide (((Dc w a).length:Int)+(Dc w b).length<=12):=by rw[hp]; simp
    have hw2:IntKind.i64.wrap (((Dc w a).length:Int)+(Dc w b).length)=((Dc w a).length:Int)+(Dc w b).length:=wrap_i64 AOl AOl
    simp only[go_sem,tb,hw2,<- hp2]
    rcases hq:ku w k with _ | _
    .simp only[go_sem,hwk]
     exact⟨k+1,⟨rfl,rfl⟩,rfl,⟨AOl,hn1 hq⟩,AOl⟩
    .rw[vX hall hk0 hq hall2]
     exact AJC
  .have hk':w.d.l.length<=k+1:=by simp at h; omega
   rw[kw hall fun i hi=>by
    by_cases e:i<k
    .exact hall2 i e
    .have:¬ (i+1<w.d.l.length):=by omega
     unfold ku;simp[this]]
   exact AJC
noncomputable def KQ (w:DWorld):Nat->Int
 | 0=>-1
 | k+1=>Ym w (UM w k)
theorem AEH (w:DWorld) (r:DRef):Ym w r<=12/\ -1<=Ym w r:=by unfold Ym;have:=Oq w r;split<;>omega
theorem AEI (w:DWorld) (k:Nat):KQ w k<=12/\ -1<=KQ w k:=by
 cases k with
 | zero=>simp[KQ]
 | succ k=>exact AEH w _
theorem SG (w:DWorld) (hf:AU w):Ctr prog 70 [.agg w.c] [.val (.c (.v (.int .i64 ((BN w).1)))),.val (.c (.v (.int .i64 ((BN w).2))))]:=by
 refine CM call70 func70 ntmps70 results70 fun hw=>?_;have hrl:=AAu hf;simp only[go_sem];refine AAe 1 (A:=Nat) (fun x=>[(4,.c (.v (.int .i64 (x))))]) (fun _=>[⟨44,14,[w.c],true,true⟩]) (fun x=>x<=w.d.l.length/\∀ i,i<x->pw1 w i=false) (fun x=>w.d.l.length-x) 0 ⟨⟨rfl,rfl⟩,rfl,aq _,fun i h=>AOl⟩ ?_;rintro k ⟨hk,hall⟩;refine AOd (fun h=>?_) fun h=>?_
 .have hk':k<w.d.l.length:=by simpa using h
  have hwk:IntKind.i64.wrap ((k:Int)+1)=(k:Int)+1:=wrap_i64 AOl AOl
  have hn1:pw1 w k=false->∀ i,i<k+1->pw1 w i=false:=fun h i h2=>by
   by_cases e:i=k
   .subst e; exact h
   .exact hall i AOl
  have hp:pw1 w k=((BO w w.d.l[k]).2&&KF (BO w w.d.l[k]).1 w.t):=by unfold pw1; rw[Po hk']
  have ha:=AA DRef.c hk';have sa:=Iy w w.d.l[k];generalize w.d.l[k]=a at hp ha sa;simp only[go_sem,ha];refine AAP ?_;simp only[go_sem,ha];rcases ka:a.kind==1 with _ | _
  .have hc:(BO w a).2=false:=by
    unfold BO;split
    .rfl
    .simp[ka]
   simp only[go_sem,ka,hwk];exact⟨k+1,⟨rfl,rfl⟩,rfl,⟨hk',hn1 (by rw[hp,hc]; rfl)⟩,AOl⟩
  simp only[go_sem,ka];refine CY (sa) ?_;rcases ta:there w a with _ | _
  .have hc:(BO w a).2=false:=by exact ANs
   simp only[go_sem,ta,hwk];exact⟨k+1,⟨rfl,rfl⟩,rfl,⟨hk',hn1 (by rw[hp,hc]; rfl)⟩,AOl⟩
  obtain⟨q,hq,hb,hat⟩ | ⟨hb,hat⟩:=DZ w a.buf
  .have hc:BO w a=(w.b[q].c0,true):=by unfold BO;simp only[there,hat] at ta;simp[hat,ta,ka]
   have hfb:=(Jh hf hq).1;rw[CO] at hfb;simp only[go_sem,ta,hb,AA _ hq,hq];refine CY (YT w.b[q].c0 w.t hfb.1) ?_;rcases hw1:KF w.b[q].c0 w.t with _ | _
   .simp only[go_sem,hwk];exact⟨k+1,⟨rfl,rfl⟩,rfl,⟨hk',hn1 (by rw[hp,hc,hw1]; rfl)⟩,AOl⟩
   .rw[vW hk' (by rw[hp,hc,hw1]; rfl) hall];exact AJC
  .simp only[there,hat] at ta;cases ta
 .have hk':k=w.d.l.length:=by simp at h; omega
  subst hk';simp only[go_sem];refine AAe 1 (A:=Nat) (fun x=>[(7,.c (.v (.int .i64 (x)))),(6,.c (.v (.int .i64 (KQ w x))))]) (fun _=>[⟨44,14,[w.c],true,true⟩]) (fun x=>x<=w.d.l.length/\∀ i,i+1<x->ku w i=false) (fun x=>w.d.l.length-x) 0 ⟨⟨rfl,rfl⟩,rfl,aq _,fun i h=>AOl⟩ ?_;rintro k ⟨hk,hall2⟩;refine AOd (fun h=>?_) fun h=>?_
  .have hk':k<w.d.l.length:=by simpa using h
   have hwk:IntKind.i64.wrap ((k:Int)+1)=(k:Int)+1:=wrap_i64 AOl AOl;have ha:=AA DRef.c hk';have sa:=Iy w w.d.l[k];have hla:KQ w (k+1)=Ym w w.d.l[k]:=by rw[KQ,Po hk']
   have hlk:=AEI w k;have hst:∀ j,k=j+1->ku w j=(decide (KQ w k>=0)&&(decide (Ym w w.d.l[k]>=0)&&decide (KQ w k+Ym w w.d.l[k]<=12))):=fun j e=>by subst e;unfold ku;rw[<- show KQ w (j+1)=Ym w (UM w j) from rfl,Po hk'];simp[hk']
   generalize w.d.l[k]=a at hla ha sa hst;have hal:=Oq w a;have hna:=AEH w a
   have hyes:KQ w k>=0->Ym w a>=0->KQ w k+Ym w a<=12->BN w=((k:Int)-1,2):=fun h1 h2 h3=>by
    cases k with
    | zero=>simp[KQ] at h1
    | succ j =>
     rw[vX hall (k:=j) AOl (by rw[hst j rfl]; simp[h1,h2,h3]) fun i hi=>hall2 i AOl]
     simp
   have hno:¬ (KQ w k>=0/\Ym w a>=0/\KQ w k+Ym w a<=12)->∀ i,i+1<k+1->ku w i=false:=fun h3 i hi=>by
    by_cases e:i+1<k
    .exact hall2 i e
    .rw[hst i AOl,abk];intro h4;simp only[ar,aQ] at h4;exact h3 h4
   clear hst;have em:decide ((-1:Int)>=0)=false:=rfl;simp only[go_sem,ha];refine AAP ?_;simp only[go_sem,ha];have hneg:Ym w a = -1->KQ w (k+1) = -1/\∀ i,i+1<k+1->ku w i=false:=fun h=>⟨by rw[hla,h],hno (by rw[h]; omega)⟩;rcases ka:a.kind==2 with _ | _
   .obtain⟨h1,h2⟩:=hneg (by unfold Ym; rw[ka]; rfl);simp only[go_sem,ka,hwk,em];exact⟨k+1,⟨rfl,rfl⟩,by rw[h1]; rfl,⟨hk',h2⟩,AOl⟩
   simp only[go_sem,ka,ha];refine CY (sa) ?_;rcases ta:there w a with _ | _
   .obtain⟨h1,h2⟩:=hneg (by unfold Ym; rw[ta]; simp);simp only[go_sem,ta,hwk,em];exact⟨k+1,⟨rfl,rfl⟩,by rw[h1]; rfl,⟨hk',h2⟩,AOl⟩
   obtain⟨q,hq,hb,hat⟩ | ⟨hb,hat⟩:=DZ w a.buf
   .have s21:=LQ w a hf hq hb;have hN:Ym w a=((Dc w a).length:Int):=by unfold Ym; rw[ka,ta]; rfl
    rw[hN] at hyes hno hla;simp only[go_sem,ta,ha];refine AAP ?_;simp only[go_sem,ta,ha];refine CY (s21) ?_;have e0:decide (((Dc w a).length:Int)>=0)=true:=AOm;have hl2:IntKind.i64.wrap (KQ w k+((Dc w a).length:Int))=KQ w k+((Dc w a).length:Int):=wrap_i64 AOl AOl;simp only[go_sem,e0];rcases h1:decide (KQ w k>=0) with _ | _
    .simp only[go_sem,hwk];exact⟨k+1,⟨rfl,rfl⟩,by rw[hla]; rfl,⟨hk',hno fun h=>APt⟩,AOl⟩
    simp only[go_sem,hl2];rcases h2:decide (KQ w k+((Dc w a).length:Int)<=12) with _ | _
    .simp only[go_sem,hwk];exact⟨k+1,⟨rfl,rfl⟩,by rw[hla]; rfl,⟨hk',hno fun h=>AO3⟩,AOl⟩
    .rw[hyes AO8 AOl APc];simp only[go_sem,wrap_i64 (n:=(k:Int)-1) AOl AOl]
   .simp only[there,hat] at ta;cases ta
  .have hk':k=w.d.l.length:=by simp at h; omega
   subst hk'
   rw[kw hall fun i hi=>by
    by_cases e:i+1<w.d.l.length
    .exact hall2 i e
    .unfold ku;simp[e]]
   exact AJC
def LW (w:DWorld) (id:Int):Int:=if 0<=id then(w.m[id.toNat]?).getD 0 else 0
theorem kz {w:DWorld} {n:Nat} (h:n<w.m.length):LW w n=w.m[n]:=by simp[LW,h]
theorem eu {w:DWorld} {id:Int} (h:¬ (0<=id/\id<w.m.length)):LW w id=0:=by
 unfold LW;split
 .rename_i h0;rw[jq AOl]; rfl
 .rfl
theorem WE (w:DWorld) (id:Int) (hm:w.m.length<=1048576):Ctr prog 236 [.agg w.c,.c (.v (.int .i64 id))] [.val (.c (.v (.int .i64 (LW w id))))]:=by
 refine CM call236 func236 ntmps236 results236 fun hw=>?_;simp only[go_sem,aa];try refine AAP ?_
 try simp only[go_sem,aa]
 first | refine AAt _ (RN id 0 _) ?_ | refine AAO _ (RN id 0 _) fun _=>?_
 simp only[go_sem,aa];rw[wrap_i64 (n:=(w.m.length:Int)-1) AOl AOl];by_cases hb:0<=id/\id<w.m.length
 .obtain⟨n,rfl⟩:=aF hb.1;have hn:n<w.m.length:=AOl;have e1:(decide ((n:Int)>=0)&&decide ((n:Int)<=(w.m.length:Int)-1))=true:=AOn;simp only[go_sem,aa,e1,AA _ hn,hn,kz hn]
 .have e1:(decide (id>=0)&&decide (id<=(w.m.length:Int)-1))=false:=by simp; omega
  simp only[go_sem,aa,e1,eu hb]
theorem WF (w:DWorld) (id:Int) (hm:w.m.length<=1048576):Ctr prog 262 [.agg w.c,.c (.v (.int .i64 id))] [.val (.c (.v (.int .i64 (LW w id))))]:=by
 refine CM call262 func262 ntmps262 results262 fun hw=>?_;by_cases hb:0<=id/\id<w.m.length
 .obtain⟨n,rfl⟩:=aF hb.1;have hn:n<w.m.length:=AOl;have e1:decide ((n:Int)<0)=false:=AOm;have e2:decide ((n:Int)>=(w.m.length:Int))=false:=AOn;simp only[go_sem,aa,e1,e2,AA _ hn,hn,kz hn]
 .rw[eu hb];by_cases h0:id<0
  .have e1:decide (id<0)=true:=by simpa using h0
   simp only[go_sem,aa,e1]
  .have e1:decide (id<0)=false:=by simpa using h0
   have e2:decide (id>=(w.m.length:Int))=true:=AOn;simp only[go_sem,aa,e1,e2]
def UN (w:DWorld) (ts:Int) (r:DRow):Bool:=!came (LW w r.id) ts
def kept (w:DWorld) (l:List DRow) (ts:Int):List DRow:=l.filter (UN w ts)
theorem lC {w:DWorld} {l:List DRow} {ts:Int} {k:Nat} (h:k<l.length):kept w (l.drop k) ts=(if UN w ts l[k]=true then [l[k]] else [])++kept w (l.drop (k+1)) ts:=by unfold kept;rw[aB h,List.filter_cons];split<;>rfl
theorem QX (w:DWorld) (l:List DRow) (ts:Int) (hm:w.m.length<=1048576) (hl:iQ Dn l) :
  Ctr prog 205 [.agg w.c,.c (.sl (l.map DRow.c)),.c (.v (.int .i64 ts))] [.own 194 2 ((kept w l ts).map DRow.o) true]:=by
 refine CM call205 func205 ntmps205 results205 fun hw=>?_
 simp only[go_sem,aa]
 refine AEU 2 1 [2,3,7,11,12,13] (A:=Nat×List DRow) (fun x=>⟨31,[(2,.c (.v (.int .i64 ts))),(3,.lp 0 0 0),(7,.c (.ref 1)),(11,.c (.sl (l.map DRow.c))),(12,.c (.v (.int .i64 l.length))),(13,.c (.v (.int .i64 x.1)))],[⟨44,14,[w.c],true,true⟩,⟨194,2,x.2.map DRow.o,true,true⟩]⟩)
  (fun x=>x.1<=l.length/\x.2++kept w (l.drop x.1) ts=kept w l ts) (fun x=>l.length-x.1) (0,[]) [(0,false),(1,false)] ⟨⟨rfl,rfl,rfl,rfl,trivial⟩,rfl⟩ ⟨aq _,rfl⟩ ?_
 rintro⟨k,out⟩ ⟨hk,hb⟩
 dsimp only at hk hb
 have hol:out.length<=l.length:=by exact AN7
 have hlen:=hl.1
 refine AOe (fun h=>?_) fun h=>?_
 .have hk':k<l.length:=by simpa using h
  rw[lC hk'] at hb
  have hr:=hl.2 _ (an hk')
  rw[JB] at hr
  have hrl:=hr.1
  simp only[go_sem,aa,AA _ hk',hk',au]
  try refine AAP ?_
  try simp only[go_sem,aa,AA _ hk',hk']
  first | refine CY (WF w l[k].id hm) ?_ | refine CW (WF w l[k].id hm) fun _=>?_
  simp only[go_sem,aa,AA _ hk',hk']
  first | refine AAt _ (LP (LW w l[k].id) ts) ?_ | refine AAO _ (LP (LW w l[k].id) ts) fun _=>?_
  rcases hc:came (LW w l[k].id) ts with _ | _
  .have hp:UN w ts l[k]=true:=by simp[UN,hc]
   rw[aV hp] at hb
   simp only[go_sem,aa,AA _ hk',hk',hc,au,wrap_i64 (n:=(k:Int)+1) AOl AOl]
   refine CW (UT l[k] hrl) fun _=>?_
   have hol2:out.length+1<=1099511627776:=by have h1:(kept w l ts).length<=l.length:=abp _ _;exact AMd
   have hnr:∀ (a:Int) (l:Nat),DR [[Cl.v (.int .i64 a),.ref l]]=false:=fun _ _=>rfl
   simp only[go_sem,aI,aM,aa,AA _ hk',hk',hol2,hnr,au,wrap_i64 (n:=(k:Int)+1) AOl AOl]
   refine⟨(k+1,out ++ [l[k]]),⟨[(0,false),(5,true),(3,false)],⟨rfl,rfl,rfl,Ic DRow.o_nr _ out rfl,AY DVal.pure,trivial⟩,.inr ⟨out.length,out.map DRow.o ++ [DRow.o l[k]],_,DRow.o l[k],_,⟨dD 1,rfl,Ib DRow.o_nr _ out _ _,AOm,rfl⟩,
    ⟨rfl,rfl,rfl,rfl,rfl,rfl,Ce _,AO4,fun l hl=>AO0⟩,⟨rfl, ?tr⟩, ?eq⟩⟩,⟨hk',by rw[<- hb,ba]⟩,AOp⟩
   case tr=>unfold BJ; rw[BM]; exact all2 rfl (AX (Aj _))
   case eq=>unfold BJ; rw[BM]; rfl
  .have hp:UN w ts l[k]=false:=by simp[UN,hc]
   rw[aR (by simp[hp]),aA] at hb
   simp only[go_sem,aa,AA _ hk',hk',hc,au,wrap_i64 (n:=(k:Int)+1) AOl AOl]
   refine⟨(k+1,out),⟨[(0,false),(1,true)],⟨rfl,rfl,rfl,D5 (Aj _),trivial⟩,.inl ?eq⟩,⟨hk',hb⟩,AOp⟩
   case eq =>
    show (⟨31,_,[_,⟨194,2,(out.map DRow.o).map (fun x=>x.map (QT [(0,false),(1,true)])),true,true⟩]⟩:MS)=_
    rw[Df (Aj out)]
    rfl
 .exact AMG
theorem fA (w:DWorld) (l:List DRow) (ts:Int) (hm:w.m.length<=1048576) (hl:iQ Dn l) :
  Ctr prog 165 [.agg w.c,.c (.sl (l.map DRow.c)),.c (.v (.int .i64 ts))] [.own 194 2 ((kept w l ts).map DRow.o) true]:=by
 refine CM call165 func165 ntmps165 results165 fun hw=>?_
 simp only[go_sem,aa]
 refine AEU 2 1 [1,2,3,7,8] (A:=Nat×List DRow) (fun x=>⟨37,[(1,.c (.sl (l.map DRow.c))),(2,.c (.v (.int .i64 ts))),(3,.lp 0 0 0),(7,.c (.ref 1)),(8,.c (.v (.int .i64 x.1)))],[⟨44,14,[w.c],true,true⟩,⟨194,2,x.2.map DRow.o,true,true⟩]⟩)
  (fun x=>x.1<=l.length/\x.2++kept w (l.drop x.1) ts=kept w l ts) (fun x=>l.length-x.1) (0,[]) [(0,false),(1,false)] ⟨⟨rfl,rfl,rfl,rfl,trivial⟩,rfl⟩ ⟨aq _,rfl⟩ ?_
 rintro⟨k,out⟩ ⟨hk,hb⟩
 dsimp only at hk hb
 have hol:out.length<=l.length:=by exact AN7
 have hlen:=hl.1
 refine AOe (fun h=>?_) fun h=>?_
 .have hk':k<l.length:=by simpa using h
  rw[lC hk'] at hb
  have hr:=hl.2 _ (an hk')
  rw[JB] at hr
  have hrl:=hr.1
  simp only[go_sem,aa,AA _ hk',hk',au]
  try refine AAP ?_
  try simp only[go_sem,aa,AA _ hk',hk']
  first | refine CY (WE w l[k].id hm) ?_ | refine CW (WE w l[k].id hm) fun _=>?_
  simp only[go_sem,aa,AA _ hk',hk']
  first | refine AAt _ (LM (LW w l[k].id) ts) ?_ | refine AAO _ (LM (LW w l[k].id) ts) fun _=>?_
  rcases hc:came (LW w l[k].id) ts with _ | _
  .have hp:UN w ts l[k]=true:=by simp[UN,hc]
   rw[aV hp] at hb
   simp only[go_sem,aa,AA _ hk',hk',hc,au,wrap_i64 (n:=(k:Int)+1) AOl AOl]
   refine CW (Y8 l[k] hrl) fun _=>?_
   have hol2:out.length+1<=1099511627776:=by have h1:(kept w l ts).length<=l.length:=abp _ _;exact AMd
   have hnr:∀ (a:Int) (l:Nat),DR [[Cl.v (.int .i64 a),.ref l]]=false:=fun _ _=>rfl
   simp only[go_sem,aI,aM,aa,AA _ hk',hk',hol2,hnr,au,wrap_i64 (n:=(k:Int)+1) AOl AOl]
   refine⟨(k+1,out ++ [l[k]]),⟨[(0,false),(5,true),(2,false)],⟨rfl,rfl,rfl,Ic DRow.o_nr _ out rfl,AY DVal.pure,trivial⟩,.inr ⟨out.length,out.map DRow.o ++ [DRow.o l[k]],_,DRow.o l[k],_,⟨dD 1,rfl,Ib DRow.o_nr _ out _ _,AOm,rfl⟩,
    ⟨rfl,rfl,rfl,rfl,rfl,rfl,Ce _,AO4,fun l hl=>AO0⟩,⟨rfl, ?tr⟩, ?eq⟩⟩,⟨hk',by rw[<- hb,ba]⟩,AOp⟩
   case tr=>unfold BJ; rw[BM]; exact all2 rfl (AX (Aj _))
   case eq=>unfold BJ; rw[BM]; rfl
  .have hp:UN w ts l[k]=false:=by simp[UN,hc]
   rw[aR (by simp[hp]),aA] at hb
   simp only[go_sem,aa,AA _ hk',hk',hc,au,wrap_i64 (n:=(k:Int)+1) AOl AOl]
   refine⟨(k+1,out),⟨[(0,false),(1,true)],⟨rfl,rfl,rfl,D5 (Aj _),trivial⟩,.inl ?eq⟩,⟨hk',hb⟩,AOp⟩
   case eq =>
    show (⟨37,_,[_,⟨194,2,(out.map DRow.o).map (fun x=>x.map (QT [(0,false),(1,true)])),true,true⟩]⟩:MS)=_
    rw[Df (Aj out)]
    rfl
 .exact AMG
def FU (c:DChunk) (first ts:Int):Nat->List DRow
 | 0=>[]
 | k+1=>match c.l[k]? with
  | some x=>if came x.ins ts=true then FU c first ts k ++ [⟨IntKind.i64.wrap (first+k),x.l⟩] else FU c first ts k
  | none=>FU c first ts k
def Yn (c:DChunk) (first ts:Int):List DRow:=FU c first ts c.l.length
def LX (c:DChunk) (ts:Int):Nat->Nat
 | 0=>0
 | k+1=>match c.l[k]? with
  | some x=>if came x.ins ts=true then LX c ts k+1 else LX c ts k
  | none=>LX c ts k
theorem JI (c:DChunk) (first ts:Int):∀ k,(FU c first ts k).length=LX c ts k
 | 0=>rfl
 | k+1=>by
  simp only[FU,LX];split
  .split
   .simp[JI c first ts k]
   .exact JI c first ts k
  .exact JI c first ts k
theorem NK (c:DChunk) (ts:Int):∀ k,LX c ts k<=k
 | 0=>aG _
 | k+1=>by
  have:=NK c ts k;simp only[LX];split
  .split<;>omega
  .omega
theorem WG {c:DChunk} {first ts:Int} {k:Nat} (hk:k<c.l.length) (h:came c.l[k].ins ts=true):FU c first ts (k+1)=FU c first ts k ++ [⟨IntKind.i64.wrap (first+k),c.l[k].l⟩]:=by simp[FU,hk,h]
theorem Yo {c:DChunk} {first ts:Int} {k:Nat} (hk:k<c.l.length) (h:came c.l[k].ins ts=false):FU c first ts (k+1)=FU c first ts k:=by simp[FU,hk,h]
theorem pI (c:DChunk) (first ts:Int) (hf:FD c):Ctr prog 261 [.agg c.c,.c (.v (.int .i64 (first))),.c (.v (.int .i64 (ts)))] [.own 194 2 ((Yn c first ts).map DRow.o) true]:=by
 refine CM call261 func261 ntmps261 results261 fun hw=>?_;rw[CO] at hf;have hlen:=hf.1;simp only[go_sem]
 refine AEU 2 1 [1,2,3,7,12,13,14] (A:=Nat×List DRow) (fun x=>⟨35,[(1,.c (.v (.int .i64 (first)))),(2,.c (.v (.int .i64 (ts)))),(3,.lp 0 0 0),(7,.c (.ref 1)),(12,.c (.sl (c.l.map DSlot.c))),(13,.c (.v (.int .i64 (c.l.length)))),(14,.c (.v (.int .i64 (x.1))))],[⟨143,2,[c.c],true,true⟩,⟨194,2,x.2.map DRow.o,true,true⟩]⟩)
  (fun x=>x.1<=c.l.length/\x.2=FU c first ts x.1) (fun x=>c.l.length-x.1) (0,[]) [(0,false),(1,false)] ⟨⟨rfl,rfl,rfl,rfl,trivial⟩,rfl⟩ ⟨aq _,rfl⟩ ?_
 rintro⟨k,out⟩ ⟨hk,hb⟩;dsimp only at hk hb;have hol:out.length<=k:=by rw[hb,JI]; exact NK _ _ _
 refine AOd (fun h=>?_) fun h=>?_
 .have hk':k<c.l.length:=by simpa using h
  have hs:=hf.2 _ (an hk');rw[Jk] at hs;have hsl:=hs.1;have hwk:IntKind.i64.wrap ((k:Int)+1)=(k:Int)+1:=wrap_i64 AOl AOl;simp only[go_sem,AA _ hk',hk'];try refine AAP ?_
  try simp only[go_sem,AA _ hk',hk']
  first | refine AAt _ (LP c.l[k].ins ts) ?_ | refine AAO _ (LP c.l[k].ins ts) fun _=>?_
  rcases hc:came c.l[k].ins ts with _ | _
  .simp only[go_sem,AA _ hk',hk',hc,hwk];refine⟨(k+1,out),⟨[(0,false),(1,true)],⟨rfl,rfl,rfl,D5 (Aj _),trivial⟩,.inl ?eq⟩,⟨hk',by rw[Yo hk' hc]; exact hb⟩,AOp⟩
   case eq =>
    show (⟨35,_,[_,⟨194,2,(out.map DRow.o).map (fun x=>x.map (QT [(0,false),(1,true)])),true,true⟩]⟩:MS)=_
    rw[Df (Aj out)]
    rfl
  .have hnr:∀ (a:Int) (l:Nat),DR [[Cl.v (.int .i64 a),.ref l]]=false:=fun _ _=>rfl;have hol2:out.length+1<=2147483648:=AOl;have hsl2:c.l[k].l.length<=2147483648:=AOl;simp only[go_sem,AA _ hk',hk',hc,hwk];refine AAO _ (F_ c.l[k].l hsl) fun _=>?_;simp only[go_sem,AA _ hk',hk',hol2,hnr,hwk];exact AI9
 .have hk':k=c.l.length:=by simp at h; omega
  subst hk';have:out=Yn c first ts:=hb
  subst this;simp only[go_sem,Aj];try exact AIG
theorem WH (c:DChunk) (first ts:Int) (hf:FD c):Ctr prog 235 [.agg c.c,.c (.v (.int .i64 (first))),.c (.v (.int .i64 (ts)))] [.own 194 2 ((Yn c first ts).map DRow.o) true]:=by
 refine CM call235 func235 ntmps235 results235 fun hw=>?_;rw[CO] at hf;have hlen:=hf.1;simp only[go_sem]
 refine AEU 2 1 [1,2,3,7,8] (A:=Nat×List DRow) (fun x=>⟨41,[(1,.c (.v (.int .i64 (first)))),(2,.c (.v (.int .i64 (ts)))),(3,.lp 0 0 0),(7,.c (.ref 1)),(8,.c (.v (.int .i64 (x.1))))],[⟨143,2,[c.c],true,true⟩,⟨194,2,x.2.map DRow.o,true,true⟩]⟩)
  (fun x=>x.1<=c.l.length/\x.2=FU c first ts x.1) (fun x=>c.l.length-x.1) (0,[]) [(0,false),(1,false)] ⟨⟨rfl,rfl,rfl,rfl,trivial⟩,rfl⟩ ⟨aq _,rfl⟩ ?_
 rintro⟨k,out⟩ ⟨hk,hb⟩;dsimp only at hk hb;have hol:out.length<=k:=by rw[hb,JI]; exact NK _ _ _
 refine AOd (fun h=>?_) fun h=>?_
 .have hk':k<c.l.length:=by simpa using h
  have hs:=hf.2 _ (an hk');rw[Jk] at hs;have hsl:=hs.1;have hwk:IntKind.i64.wrap ((k:Int)+1)=(k:Int)+1:=wrap_i64 AOl AOl;simp only[go_sem,AA _ hk',hk'];try refine AAP ?_
  try simp only[go_sem,AA _ hk',hk']
  first | refine AAt _ (LM c.l[k].ins ts) ?_ | refine AAO _ (LM c.l[k].ins ts) fun _=>?_
  rcases hc:came c.l[k].ins ts with _ | _
  .simp only[go_sem,AA _ hk',hk',hc,hwk];refine⟨(k+1,out),⟨[(0,false),(1,true)],⟨rfl,rfl,rfl,D5 (Aj _),trivial⟩,.inl ?eq⟩,⟨hk',by rw[Yo hk' hc]; exact hb⟩,AOp⟩
   case eq =>
    show (⟨41,_,[_,⟨194,2,(out.map DRow.o).map (fun x=>x.map (QT [(0,false),(1,true)])),true,true⟩]⟩:MS)=_
    rw[Df (Aj out)]
    rfl
  .have hnr:∀ (a:Int) (l:Nat),DR [[Cl.v (.int .i64 a),.ref l]]=false:=fun _ _=>rfl;have hol2:out.length+1<=2147483648:=AOl;have hsl2:c.l[k].l.length<=2147483648:=AOl;simp only[go_sem,AA _ hk',hk',hc,hwk];simp only[go_sem,AA _ hk',hk',QK,IQ,hsl2,hol2,hnr,hwk];exact AI9
 .have hk':k=c.l.length:=by simp at h; omega
  subst hk';have:out=Yn c first ts:=hb
  subst this;simp only[go_sem,Aj];try exact AIG
noncomputable def WI (w:DWorld) (r:DRef):List DRow:=if(r.kind==2&&there w r)=true then Dc w r else []
noncomputable def Ag (w:DWorld) (r:DRef) (ts:Int):List DRow:=if(BO w r).2=true then Yn (BO w r).1 r.first ts else WI w r
theorem fB:∀ (cs:List Int) (vs:List DVal),fits cs vs=true->vs.length=cs.length/\∀ v∈vs,BX v=true
 | [],[],_=>⟨rfl,fun v hv=>by cases hv⟩
 | [],_::_,h=>by simp[fits] at h
 | _::_,[],h=>by simp[fits] at h
 | c::cs,v::vs,h=>by
  simp only[fits,ar] at h;obtain⟨h1,h2⟩:=fB cs vs h.2;refine⟨by simp[h1],fun x hx=>?_⟩;rcases TM.1 hx with rfl | hx
  .exact h.1.1
  .exact h2 x hx
theorem pJ (w:DWorld) (r:DRef):fitS Dn (Dc w r):=by
 unfold Dc;split
 .exact⟨aq _,fun x hx=>by cases hx⟩
 .rename_i b hb;rcases h:C_ w.c0.cols b.g with _ | l
  .exact⟨aq _,fun x hx=>by cases hx⟩
  .obtain⟨h1,h2,h3⟩:=IU (SC h);refine⟨by simp only[au]; omega,fun x hx=>?_⟩;obtain⟨q1,q2⟩:=fB _ _ (h3 x hx).2.2;rw[JB];refine⟨AOl,fun v hv=>?_⟩;have:=Uh (q2 v hv);rw[TG]; omega
theorem NL {c:DChunk} (first ts:Int) (hf:FD c):∀ k,∀ r∈FU c first ts k,Dn r
 | 0,r,hr=>by cases hr
 | k+1,r,hr=>by
  simp only[FU] at hr;split at hr
  .rename_i x hx;split at hr
   .rcases yF.1 hr with hr | hr
    .exact NL first ts hf k r hr
    .rw[aaX.1 hr];rw[CO] at hf;exact hf.2 x (aT hx)
   .exact NL first ts hf k r hr
  .exact NL first ts hf k r hr
theorem ACJ {c:DChunk} (first ts:Int) (hf:FD c):fitS Dn (Yn c first ts):=by refine⟨?_,NL first ts hf _⟩;have h:=hf;rw[CO] at h;have h1:=h.1;unfold Yn;rw[JI];exact abI (NK _ _ _) h1
theorem Xy (w:DWorld) (r:DRef) (hf:AU w):Ctr prog 184 [.agg w.c,.agg r.c] [.own 194 2 ((WI w r).map DRow.o) true]:=by
 refine CM call184 func184 ntmps184 results184 fun hw=>?_;rcases h1:r.kind != 2 with _ | _
 .have hk1:(r.kind==2)=true:=by simpa using h1
  simp only[go_sem,h1,hk1,WI,ah];try refine AAP ?_
  try simp only[go_sem,h1]
  first | refine CY (Cf w r) ?_ | refine CW (Cf w r) fun _=>?_
  rcases h2:there w r with _ | _
  .simp only[go_sem,h1,h2];try exact AIG
  .obtain⟨k,hk,hb,hat⟩ | ⟨hb,hat⟩:=DZ w r.buf
   .have hbo:=TL hw.1 hk;have hg:Dc w r=(C_ w.c0.cols w.b[k].g).getD []:=by simp only[Dc,hat]
    have hgs:=RJ w.c0.cols w.b[k].g hbo (Jh hf hk).2;simp only[go_sem,h1,h2,hb,AA _ hk,hk,hg];rcases hgg:C_ w.c0.cols w.b[k].g with _ | l<;>rw[hgg] at hgs<;>simp only[W9] at hgs
    .refine AAR ?_;simp only[go_sem,h1,h2,hb,AA _ hk,hk];refine ABg _ hgs ?_;simp only[go_sem];try simp[OwnL,AB,DR]
     rw[am hk]; rfl
    .refine AAR ?_;simp only[go_sem,h1,h2,hb,AA _ hk,hk];refine ABg _ hgs ?_;simp only[go_sem,Aj];try simp[OwnL,AB]
     rw[am hk]; rfl
   .exact AOa
 .have hk1:(r.kind==2)=false:=by simpa using h1
  simp only[go_sem,h1,hk1,WI,ac];try refine AAP ?_
  try simp only[go_sem,h1,hk1]
  try exact AIG
theorem lD (w:DWorld) (r:DRef) (hf:AU w):FD (BO w r).1:=by
 unfold BO;rcases DZ w r.buf with ⟨k,hk,hb,hat⟩ | ⟨hb,hat⟩
 .rw[hat];have:=(Jh hf hk).1;dsimp only;split
  .exact this
  .rw[CO]; exact⟨aq _,fun x hx=>by cases hx⟩
 .rw[hat,CO]; exact⟨aq _,fun x hx=>by cases hx⟩
theorem ACK (w:DWorld) (r:DRef):fitS Dn (WI w r):=by
 unfold WI;split
 .exact pJ w r
 .exact⟨aq _,fun x hx=>by cases hx⟩
theorem IE (w:DWorld) (r:DRef) (ts:Int) (hf:AU w):fitS Dn (Ag w r ts):=by
 unfold Ag;split
 .exact ACJ _ _ (lD w r hf)
 .exact ACK w r
theorem JJ (w:DWorld) (r:DRef) (ts:Int) (hf:AU w):Ctr prog 204 [.agg w.c,.agg r.c,.c (.v (.int .i64 (ts)))] [.own 194 2 ((Ag w r ts).map DRow.o) true]:=by
 refine CM call204 func204 ntmps204 results204 fun hw=>?_;simp only[go_sem];refine CW (Ja w r) fun _=>?_;have hfc:=lD w r hf;unfold Ag;generalize (BO w r).1=c at hfc ⊢;generalize (BO w r).2=ok;rcases ok with _ | _
 .simp only[go_sem];refine CW (Xy w r hf) fun _=>?_;simp only[go_sem,Aj];try exact AIG
 .simp only[go_sem];refine CW (pI c r.first ts hfc) fun _=>?_;simp only[go_sem,Aj];try exact AIG
theorem QY (w:DWorld) (r:DRef) (ts:Int) (hf:AU w):Ctr prog 164 [.agg w.c,.agg r.c,.c (.v (.int .i64 (ts)))] [.own 194 2 ((Ag w r ts).map DRow.o) true]:=by
 refine CM call164 func164 ntmps164 results164 fun hw=>?_;simp only[go_sem];refine CW (Iy w r) fun _=>?_;rcases ta:there w r with _ | _
 .have hc:(BO w r).2=false:=by exact ANs
  have he:Ag w r ts = []:=by simp[Ag,hc,WI,ta]
  rw[he];simp only[go_sem];try exact AIG
 obtain⟨k,hk,hb,hat⟩ | ⟨hb,hat⟩:=DZ w r.buf;rotate_left
 .simp only[there,hat] at ta;cases ta
 have tb:QL w.b[k] r=true:=by simp only[there,hat] at ta; exact ta
 rcases k1:r.kind==1 with _ | _
 .have hc:(BO w r).2=false:=by simp[BO,hat,k1]
  rcases k2:r.kind==2 with _ | _
  .have he:Ag w r ts = []:=by simp[Ag,hc,WI,k2]
   rw[he];simp only[go_sem,k1,k2];try exact AIG
  .have he:Ag w r ts=Dc w r:=by simp[Ag,hc,WI,k2,ta]
   rw[he];simp only[go_sem,k1,k2];try refine AAR ?_
   try simp only[go_sem,k1,k2]
   first | refine CW (LQ w r hf hk hb) fun _=>?_ | refine CZ (LQ w r hf hk hb) ?_
   simp only[go_sem];first | refine AAO _ (Qp (Dc w r) (pJ w r)) fun _=>?_ | refine ABg _ (Qp (Dc w r) (pJ w r)) ?_
   simp only[go_sem,Aj];try exact AIG
 .have hc:BO w r=(w.b[k].c0,true):=by simp[BO,hat,tb,k1]
  have he:Ag w r ts=Yn w.b[k].c0 r.first ts:=by simp[Ag,hc]
  rw[he];simp only[go_sem,k1,hb,AA _ hk,hk];try refine AAR ?_
  try simp only[go_sem,k1,hb,AA _ hk,hk]
  first | refine CW (WH w.b[k].c0 r.first ts (Jh hf hk).1) fun _=>?_ | refine CZ (WH w.b[k].c0 r.first ts (Jh hf hk).1) ?_
  simp only[go_sem,Aj];try simp[OwnL,AB]
  rw[am hk]; rfl
def fC (t:DTask):Bool:=(t.op==3)&&decide (t.pc>=2)
theorem Yp (t:DTask):Ctr prog 201 [.agg t.c] [.val (.c (.v (.bool (fC t))))]:=by refine CM call201 func201 ntmps201 results201 fun hw=>?_;exact AOJ
theorem Yq (t:DTask):Ctr prog 160 [.agg t.c] [.val (.c (.v (.bool (fC t))))]:=by refine CM call160 func160 ntmps160 results160 fun hw=>?_;exact AOJ
def hzG (h:Int) (t:DTask):Int:=if fC t=true then min h t.ts else h
def Ah (w:DWorld):Int:=w.tasks.foldl hzG w.t
theorem vY {α β:Type} (g:β->α->β) (z:β) (l:List α) {k:Nat} (h:k<l.length):(l.take (k+1)).foldl g z=g ((l.take k).foldl g z) l[k]:=by rw[abE,am h,abu];rfl
theorem lF {w:DWorld} (hf:AU w):w.tasks.length<=1048576:=by rw[AZ] at hf;exact hf.2.2.2.2.2.2.1.1
theorem jG (w:DWorld) (hf:AU w):Ctr prog 109 [.agg w.c] [.val (.c (.v (.int .i64 (Ah w))))]:=by
 refine CM call109 func109 ntmps109 results109 fun hw=>?_;have hl:=lF hf;simp only[go_sem];refine AAe 1 (A:=Nat) (fun x=>[(11,.c (.v (.int .i64 (x)))),(3,.c (.v (.int .i64 ((w.tasks.take x).foldl hzG w.t))))]) (fun _=>[⟨44,14,[w.c],true,true⟩]) (fun x=>x<=w.tasks.length) (fun x=>w.tasks.length-x) 0 ⟨⟨rfl,rfl⟩,rfl,aq _⟩ ?_;intro k hk;refine AOd (fun h=>?_) fun h=>?_
 .have hk':k<w.tasks.length:=by simpa using h
  have hfo:=vY hzG w.t w.tasks hk';simp only[go_sem,AA _ hk',hk'];try refine AAP ?_
  try simp only[go_sem,AA _ hk',hk']
  first | refine CY (Yp w.tasks[k]) ?_ | refine CW (Yp w.tasks[k]) fun _=>?_
  rcases hc:fC w.tasks[k] with _ | _
  .simp only[go_sem,hc,wrap_i64 (n:=(k:Int)+1) AOl AOl];exact⟨k+1,⟨rfl,rfl⟩,by rw[hfo]; simp only[hzG,hc]; rfl,hk',AOl⟩
  .have hmin:(if w.tasks[k].ts<(w.tasks.take k).foldl hzG w.t then w.tasks[k].ts else(w.tasks.take k).foldl hzG w.t)=(w.tasks.take (k+1)).foldl hzG w.t:=by rw[hfo]; simp only[hzG,hc,aO]; split<;>omega
   simp only[go_sem,hc,hmin,wrap_i64 (n:=(k:Int)+1) AOl AOl];exact⟨k+1,⟨rfl,rfl⟩,rfl,hk',AOl⟩
 .exact ANt
theorem UO (w:DWorld) (hf:AU w):Ctr prog 74 [.agg w.c] [.val (.c (.v (.int .i64 (Ah w))))]:=by
 refine CM call74 func74 ntmps74 results74 fun hw=>?_;have hl:=lF hf;simp only[go_sem];refine AAe 1 (A:=Nat) (fun x=>[(4,.c (.v (.int .i64 (x)))),(3,.c (.v (.int .i64 ((w.tasks.take x).foldl hzG w.t))))]) (fun _=>[⟨44,14,[w.c],true,true⟩]) (fun x=>x<=w.tasks.length) (fun x=>w.tasks.length-x) 0 ⟨⟨rfl,rfl⟩,rfl,aq _⟩ ?_;intro k hk;refine AOd (fun h=>?_) fun h=>?_
 .have hk':k<w.tasks.length:=by simpa using h
  have hfo:=vY hzG w.t w.tasks hk';simp only[go_sem,AA _ hk',hk'];try refine AAP ?_
  try simp only[go_sem,AA _ hk',hk']
  first | refine CY (Yq w.tasks[k]) ?_ | refine CW (Yq w.tasks[k]) fun _=>?_
  rcases hc:fC w.tasks[k] with _ | _
  .simp only[go_sem,hc,AA _ hk',hk',wrap_i64 (n:=(k:Int)+1) AOl AOl];exact⟨k+1,⟨rfl,rfl⟩,by rw[hfo]; simp only[hzG,hc]; rfl,hk',AOl⟩
  .simp only[go_sem,hc,AA _ hk',hk',wrap_i64 (n:=(k:Int)+1) AOl AOl];rcases hd:decide (w.tasks[k].ts<(w.tasks.take k).foldl hzG w.t) with _ | _
   .simp only[go_sem,AA _ hk',hk',hd,wrap_i64 (n:=(k:Int)+1) AOl AOl];exact⟨k+1,⟨rfl,rfl⟩,by rw[hfo]; simp only[hzG,hc,aO]; rw[Int.min_eq_left (by simp at hd; omega)]; rfl,hk',AOl⟩
   .simp only[go_sem,AA _ hk',hk',hd,wrap_i64 (n:=(k:Int)+1) AOl AOl];exact⟨k+1,⟨rfl,rfl⟩,by rw[hfo]; simp only[hzG,hc,aO]; rw[Int.min_eq_right (by simp at hd; omega)]; rfl,hk',AOl⟩
 .exact ANt
