/- A part. -/
import Derived.Test.YthmifbbmgnhddaaGreatBp
import Derived.Test.YthmifbbmgnhddaaGreatEt
import Derived.Test.YthmifbbmgnhddaaGreatSz
import Derived.Test.YthmifbbmgnhddaaGreatXb
import Derived.Test.YthmifbbmgnhddaaGreatIa
import Derived.Test.YthmifbbmgnhddaaGreatSm
import Derived.Test.YthmifbbmgnhddaaGreatFa
set_option linter.unusedSimpArgs false
set_option linter.unusedVariables false
set_option maxHeartbeats 4000000
set_option maxRecDepth 10000
open Go.Proofs.Tryz
namespace Go.Proofs.YthmifbbmgnhddaaGreat
open Go.Vm
noncomputable def allT:DTable→List DDeed→DTable
 | t,[]=>t
 | t,d::ds=>match AY t d with
  | some t'=>allT t' ds
  | none=>t
noncomputable def Si:DTable→List DDeed→Nat
 | _,[]=>0
 | t,d::ds=>match AY t d with
  | some t'=>Si t' ds+1
  | none=>0
theorem xM {t t':DTable} {ds:List DDeed} {k:Nat} (hk:k<ds.length) (h:AY t ds[k]=some t'):allT t (ds.drop k)=allT t' (ds.drop (k+1))∧Si t (ds.drop k)=Si t' (ds.drop (k+1))+1:=by
 rw[aA hk]
 simp only[allT,Si,h,vI]
theorem xN {t:DTable} {ds:List DDeed} {k:Nat} (hk:k<ds.length) (h:AY t ds[k]=none):allT t (ds.drop k)=t∧Si t (ds.drop k)=0:=by
 rw[aA hk]
 simp only[allT,Si,h,vI]
theorem VV {t t':DTable} {d:DDeed} (h:AY t d=some t'):t'.l.length≤t.l.length+1:=by
 have h1:(KH t d).l.length≤t.l.length+1:=by
  unfold KH
  split
  ·have:=aaJ (fun r:DRow=>!O4 [d.id] r.id) t.l
   simp only[Rj]; omega
  ·omega
 have h2:(SA t d).l.length≤t.l.length+1:=by
  unfold SA
  repeat' split
  ·simp only[vX]; omega
  ·omega
  ·omega
 unfold AY at h
 grind
def ALi (t:DTable) (l:List DDeed) (x:Nat×DTable):Prop:=x.1≤l.length∧Em x.2∧x.2.l.length≤t.l.length+x.1∧allT x.2 (l.drop x.1)=allT t l∧x.1+Si x.2 (l.drop x.1)=Si t l
theorem h_ (t:DTable) (l:List DDeed) (ht:Em t) (hl:fitS C_ l) (hroom:t.l.length+l.length≤1048576):Ctr prog 167 [.agg t.c,.c (.sl (l.map DDeed.c))] [.val (.agg (allT t l).c),.val (.c (.v (.int .i64 ((Si t l)))))]:=by
 have ht0:=ht
 rw[Ce] at ht
 have hlen:=hl.1
 refine CM call167 func167 ntmps167 results167 fun hw=>?_
 simp only[go_sem]
 refine CW ((eu t ht.1 ht.2).aggVal t.o_er) fun _=>?_
 simp only[go_sem,ae]
 refine AAT 3 (A:=Nat×DTable) (fun x=>[(7,.c (.v (.int .i64 (x.1))))]) (fun x=>[⟨124,2,[[.sl (t.cols.map intC),.sl (t.l.map DRow.c)]],true,true⟩,⟨124,2,[[.v (.slice none 0 0),.v (.slice none 0 0)]],true,true⟩,⟨124,2,[[.sl (x.2.cols.map intC),.sl (x.2.l.map DRow.c)]],true,true⟩]) (ALi t l) (fun x=>l.length-x.1) (0,t) ⟨⟨rfl,rfl⟩,rfl,au _,ht0,AQ3,rfl,AQ3⟩ ?_
 rintro⟨k,u⟩ ⟨hk,hu,hul,hbT,hbN⟩
 dsimp only at hk hu hul hbT hbN
 refine AQy (fun h=>?_) fun h=>?_
 ·have hk':k<l.length:=by simpa using h
  have hroomu:GR u=true→u.l.length+1≤1048576:=fun _=>AQ2
  have hd:=hl.2 _ (aj hk')
  simp only[go_sem,ae,AA _ hk',hk']
  refine ACF 9 5 (by kernel_rfl) ?_
  simp only[go_sem,ae,AA _ hk',hk']
  refine CZ (vZ u l[k] hu hd hroomu) ?_
  rcases hr:AY u l[k] with _ | u'
  ·obtain⟨e1,e2⟩:=xN hk' hr
   rw[e1] at hbT
   rw[e2,abu] at hbN
   rw[← hbT,← hbN,Ar hr]
   simp only[go_sem,ae,AA _ hk',hk',aQ]
  ·obtain⟨e1,e2⟩:=xM hk' hr
   rw[e1] at hbT
   rw[e2] at hbN
   have hfit:=VL hu hd hroomu
   rw[Bo hr] at hfit ⊢
   have hlen2:=VV hr
   simp only[go_sem,ae,AA _ hk',hk',aV,wrap_i64 (n:=(k:Int)+1) AQ2 AQ2]
   exact⟨(k+1,u'),⟨rfl,rfl⟩,rfl,⟨hk',hfit,AQ6,hbT,AQ4⟩,AQ4⟩
 ·have hk':k=l.length:=by simp at h; omega
  subst hk'
  rw[aJ] at hbT hbN
  simp only[allT,Si,abu] at hbT hbN
  rw[← hbT,← hbN]
  simp only[go_sem,ae]
theorem iC (t:DTable) (l:List DDeed) (ht:Em t) (hl:fitS C_ l) (hroom:t.l.length+l.length≤1048576):Ctr prog 173 [.agg t.c,.c (.sl (l.map DDeed.c))] [.agg (allT t l).o,.val (.c (.v (.int .i64 ((Si t l)))))]:=by
 have ht0:=ht
 rw[Ce] at ht
 have hlen:=hl.1
 refine CM call173 func173 ntmps173 results173 fun hw=>?_
 simp only[go_sem]
 refine CW (Ri t ht.1 ht.2) fun _=>?_
 simp only[go_sem,ae,AX,AO]
 refine AAU [12] (A:=Nat×DTable) (fun x=>[(15,.c (.v (.int .i64 (x.1))))]) (fun x=>[⟨124,2,[[.sl (t.cols.map intC),.sl (t.l.map DRow.c)]],true,true⟩,⟨124,2,[[.v (.slice none 0 0),.v (.slice none 0 0)]],true,true⟩,⟨3,1,x.2.cols.map intC,true,true⟩,⟨201,2,x.2.l.map DRow.o,true,true⟩,⟨124,2,[[.ref 2,.ref 3]],true,true⟩]) (ALi t l) (fun x=>l.length-x.1) (0,t) (AAQ [(0,false),(1,true),(2,false),(3,true),(4,true)] ⟨rfl,rfl,rfl,rfl,AP OC,Bc (AO _),rfl,trivial⟩ (by
  show (⟨35,_,[_,_,_,⟨201,2,(t.l.map DRow.o).map (fun x=>x.map (NM [(0,false),(1,true),(2,false),(3,true),(4,true)])),true,true⟩,_]⟩:MS)=_
  rw[BM (AO t.l)]; rfl)) ⟨au _,ht0,AQ3,rfl,AQ3⟩ ?_
 rintro⟨k,u⟩ ⟨hk,hu,hul,hbT,hbN⟩
 dsimp only at hk hu hul hbT hbN
 refine AQy (fun h=>?_) fun h=>?_
 ·have hk':k<l.length:=by simpa using h
  have hroomu:GR u=true→u.l.length+1≤1048576:=fun _=>AQ2
  have hd:=hl.2 _ (aj hk')
  simp only[go_sem,ae,AA _ hk',hk']
  refine ABQ (args:=[.agg u.c,.agg l[k].c]) [.agg (Ju u l[k]).o,.val (.c (.v (.bool ((AY u l[k]).isSome))))] (by simp only[CO,DW,DU,ET,go_sem]) (by simp only[aW,O7,AAb,bn,aF]) (ve u l[k] hu hd hroomu) fun _=>?_
  rcases hr:AY u l[k] with _ | u'
  ·obtain⟨e1,e2⟩:=xN hk' hr
   rw[e1] at hbT
   rw[e2,abu] at hbN
   rw[← hbT,← hbN,Ar hr]
   simp only[go_sem,ae,AA _ hk',hk',aQ,AX,AO]
   grind
  ·obtain⟨e1,e2⟩:=xM hk' hr
   rw[e1] at hbT
   rw[e2] at hbN
   have hfit:=VL hu hd hroomu
   rw[Bo hr] at hfit ⊢
   have hlen2:=VV hr
   simp only[go_sem,ae,AA _ hk',hk',aV,AX,AO,wrap_i64 (n:=(k:Int)+1) AQ2 AQ2]
   exact⟨(k+1,u'),AAQ [(0,false),(1,true),(6,false),(7,true),(4,true)] ⟨rfl,rfl,rfl,rfl,AP OC,Bc (AO _),rfl,trivial⟩ (by
    show (⟨35,_,[_,_,_,⟨201,2,(u'.l.map DRow.o).map (fun x=>x.map (NM [(0,false),(1,true),(6,false),(7,true),(4,true)])),true,true⟩,_]⟩:MS)=_
    rw[BM (AO u'.l)]; rfl),⟨hk',hfit,AQ6,hbT,AQ4⟩,AQ4⟩
 ·have hk':k=l.length:=by simp at h; omega
  subst hk'
  rw[aJ] at hbT hbN
  simp only[allT,Si,abu] at hbT hbN
  rw[← hbT,← hbN]
  simp only[go_sem,ae,AX,AO]
  grind
theorem ACV:∀ (ds:List DDeed) (t:DTable),Em t→(∀ d∈ds,C_ d)→t.l.length+ds.length≤1048576→Em (allT t ds)
 | [],t,ht,_,_=>by simp only[allT]; exact ht
 | d::ds,t,ht,hd,hl=>by
  simp only[bz] at hl
  simp only[allT]
  split
  ·rename_i t' hr
   have h1:=VL ht (hd d AQ3) (fun _=>AQ2)
   rw[Bo hr] at h1
   have h2:=VV hr
   exact ACV ds t' h1 (fun x hx=>hd x ARS) AQ2
  ·exact ht
def O5 (w:DWorld):DTable:=⟨w.c0.cols,[]⟩
theorem iD (w:DWorld) (hf:AZ w):Ctr prog 85 [.agg w.c] [.val (.agg (allT (O5 w) (S_ w.deeds)).c),.val (.c (.v (.int .i64 ((Si (O5 w) (S_ w.deeds):Nat):Int))))]:=by
 refine CM call85 func85 ntmps85 results85 fun hw=>?_
 rw[Ai,Es] at hf
 have hd:=iY hf.2.2.2.2.2.2.2
 have ht:Em (O5 w):=ARy
 simp only[go_sem]
 refine AAR ?_
 simp only[go_sem]
 refine ABO _ ((lZ w hf.2.2.2.2.2.2.2).valO (Cf _)) ?_
 simp only[go_sem]
 refine ABO _ (h_ (O5 w) (S_ w.deeds) ht hd (by have:=hd.1; simp[O5]; omega)) ?_
 exact AIu
theorem iE (w:DWorld) (hf:AZ w):Ctr prog 90 [.agg w.c] [.agg (allT (O5 w) (S_ w.deeds)).o,.val (.c (.v (.int .i64 ((Si (O5 w) (S_ w.deeds):Nat):Int))))]:=by
 refine CM call90 func90 ntmps90 results90 fun hw=>?_
 rw[Ai,Es] at hf
 have hd:=iY hf.2.2.2.2.2.2.2
 have hlen:=hf.2.2.2.2.2.2.2.1
 have ht:Em (O5 w):=ARy
 simp only[go_sem]
 refine CW (S9 w.deeds hlen) fun _=>?_
 simp only[go_sem,ae]
 refine AAU [6,7] (A:=Nat×List DDeed) (fun x=>[(12,.c (.v (.int .i64 (x.1)))),(4,.c (.ref 2))]) (fun x=>[⟨46,14,[w.c],true,true⟩,⟨124,2,[[.v (.slice none 0 0),.v (.slice none 0 0)]],true,true⟩,⟨162,25,x.2.map DDeed.c,true,true⟩,⟨3,1,(LC w.deeds).map intC,true,true⟩]) (fun x=>x.1≤(LC w.deeds).length∧x.2=lY w.deeds x.1) (fun x=>(LC w.deeds).length-x.1) (0,[]) (AAQ [(0,false),(1,true),(2,false),(3,false)] ⟨rfl,rfl,rfl,rfl,rfl,UR _,trivial⟩ rfl) ⟨au _,rfl⟩ ?_
 rintro⟨k,out⟩ ⟨hk,hb⟩
 dsimp only at hk hb
 refine AQy (fun h=>?_) fun h=>?_
 ·have hk':k<(LC w.deeds).length:=by simpa using h
  obtain⟨n,e,hn⟩:=AIp hk'
  have hsu:=ny hk' hn e
  rw[← hb] at hsu
  have hll:=iV w.deeds
  have hol:=iW w.deeds k
  rw[← hb] at hol
  have hol2:out.length+1≤2147483648:=AQ2
  have t1:=I_ hk'
  rw[e] at t1
  have hnr:D7 (List.map DDeed.c [w.deeds[n]])=true:=Ea (AP DDeed.pure)
  have hap:out.map DDeed.c ++ [DDeed.c w.deeds[n]]=(out ++ [w.deeds[n]]).map DDeed.c:=AQ3
  simp only[TA,df,go_sem] at hnr hap
  simp only[go_sem,ae,t1,hk',AA _ hn,hn,hol2,hnr,hap,ak,wrap_i64 (n:=(k:Int)+1) AQ2 AQ2]
  exact⟨(k+1,out ++ [w.deeds[n]]),AAQ [(0,false),(1,true),(5,false),(3,false)] ⟨rfl,rfl,rfl,rfl,AP DDeed.pure,UR _,trivial⟩ rfl,⟨hk',hsu.symm⟩,AQ4⟩
 ·have hk':k=(LC w.deeds).length:=by simp at h; omega
  subst hk'
  have:out=S_ w.deeds:=hb
  subst this
  have hp:Fv (List.map DDeed.c (S_ w.deeds))=true:=AP DDeed.pure
  simp only[go_sem,hp]
  refine AAN _ (iC (O5 w) (S_ w.deeds) ht hd (by have:=hd.1; simp[O5]; omega)) fun _=>?_
  simp only[go_sem,AX,AO]
  try exact AHA
def LX (w:DWorld) (id:Int):Int:=if 0≤id then(w.m[id.toNat]?).getD 0 else 0
theorem nR {w:DWorld} {n:Nat} (h:n<w.m.length):LX w n=w.m[n]:=by simp[LX,h]
theorem iF {w:DWorld} {id:Int} (h:¬ (0≤id∧id<w.m.length)):LX w id=0:=by
 unfold LX
 split
 ·rename_i h0
  rw[aaq AQ2]; rfl
 ·rfl
theorem WY (w:DWorld) (id:Int) (hm:w.m.length≤1048576):Ctr prog 273 [.agg w.c,.c (.v (.int .i64 id))] [.val (.c (.v (.int .i64 (LX w id))))]:=by
 refine CM call273 func273 ntmps273 results273 fun hw=>?_
 simp only[go_sem,ae]
 try refine AAO ?_
 try simp only[go_sem,ae]
 first | refine AAS _ (TY id 0 _) ?_ | refine AAN _ (TY id 0 _) fun _=>?_
 simp only[go_sem,ae]
 rw[wrap_i64 (n:=(w.m.length:Int)-1) AQ2 AQ2]
 by_cases hb:0≤id∧id<w.m.length
 ·obtain⟨n,rfl⟩:=aU hb.1
  have hn:n<w.m.length:=AQ2
  have e1:(decide ((n:Int)≥0)&&decide ((n:Int)≤(w.m.length:Int)-1))=true:=AQ5
  simp only[go_sem,ae,e1,AA _ hn,hn,nR hn]
 ·have e1:(decide (id≥0)&&decide (id≤(w.m.length:Int)-1))=false:=by simp; omega
  simp only[go_sem,ae,e1,iF hb]
theorem WZ (w:DWorld) (id:Int) (hm:w.m.length≤1048576):Ctr prog 282 [.agg w.c,.c (.v (.int .i64 id))] [.val (.c (.v (.int .i64 (LX w id))))]:=by
 refine CM call282 func282 ntmps282 results282 fun hw=>?_
 by_cases hb:0≤id∧id<w.m.length
 ·obtain⟨n,rfl⟩:=aU hb.1
  have hn:n<w.m.length:=AQ2
  have e1:decide ((n:Int)<0)=false:=AQ3
  have e2:decide ((n:Int)≥(w.m.length:Int))=false:=AQ5
  simp only[go_sem,ae,e1,e2,AA _ hn,hn,nR hn]
 ·rw[iF hb]
  by_cases h0:id<0
  ·have e1:decide (id<0)=true:=by simpa using h0
   simp only[go_sem,ae,e1]
  ·have e1:decide (id<0)=false:=by simpa using h0
   have e2:decide (id≥(w.m.length:Int))=true:=AQ5
   simp only[go_sem,ae,e1,e2]
def Uz (w:DWorld) (ts:Int) (r:DRow):Bool:=!came (LX w r.id) ts
def kept (w:DWorld) (l:List DRow) (ts:Int):List DRow:=l.filter (Uz w ts)
theorem nS {w:DWorld} {l:List DRow} {ts:Int} {k:Nat} (h:k<l.length):kept w (l.drop k) ts=(if Uz w ts l[k]=true then [l[k]] else [])++kept w (l.drop (k+1)) ts:=by
 unfold kept
 rw[aA h,List.filter_cons]
 split<;>rfl
theorem ABC (w:DWorld) (l:List DRow) (ts:Int) (hm:w.m.length≤1048576) (hl:Pg Aw l) :
  Ctr prog 179 [.agg w.c,.c (.sl (l.map DRow.c)),.c (.v (.int .i64 ts))] [.own 201 2 ((kept w l ts).map DRow.o) true]:=by
 refine CM call179 func179 ntmps179 results179 fun hw=>?_
 simp only[go_sem,ae]
 refine AE1 2 1 [2,3,7,11,12,13] (A:=Nat×List DRow) (fun x=>⟨31,[(2,.c (.v (.int .i64 ts))),(3,.lp 0 0 0),(7,.c (.ref 1)),(11,.c (.sl (l.map DRow.c))),(12,.c (.v (.int .i64 l.length))),(13,.c (.v (.int .i64 x.1)))],[⟨46,14,[w.c],true,true⟩,⟨201,2,x.2.map DRow.o,true,true⟩]⟩)
  (fun x=>x.1≤l.length∧x.2++kept w (l.drop x.1) ts=kept w l ts) (fun x=>l.length-x.1) (0,[]) [(0,false),(1,false)] ⟨⟨rfl,rfl,rfl,rfl,trivial⟩,rfl⟩ ⟨au _,rfl⟩ ?_
 rintro⟨k,out⟩ ⟨hk,hb⟩
 dsimp only at hk hb
 have hol:out.length≤l.length:=by
  have h1:(kept w l ts).length≤l.length:=aaJ _ _
  exact APi
 have hlen:=hl.1
 refine AQy (fun h=>?_) fun h=>?_
 ·have hk':k<l.length:=by simpa using h
  rw[nS hk'] at hb
  have hr:=hl.2 _ (aj hk')
  rw[DN] at hr
  have hrl:=hr.1
  simp only[go_sem,ae,AA _ hk',hk',ak]
  try refine AAO ?_
  try simp only[go_sem,ae,AA _ hk',hk']
  first | refine CY (WZ w l[k].id hm) ?_ | refine CW (WZ w l[k].id hm) fun _=>?_
  simp only[go_sem,ae,AA _ hk',hk']
  first | refine AAS _ (Q5 (LX w l[k].id) ts) ?_ | refine AAN _ (Q5 (LX w l[k].id) ts) fun _=>?_
  rcases hc:came (LX w l[k].id) ts with _ | _
  ·have hp:Uz w ts l[k]=true:=by simp[Uz,hc]
   rw[bG hp] at hb
   simp only[go_sem,ae,AA _ hk',hk',hc,ak,wrap_i64 (n:=(k:Int)+1) AQ2 AQ2]
   refine CW (Fq l[k] hrl) fun _=>?_
   have hol2:out.length+1≤1099511627776:=by
    have h1:(kept w l ts).length≤l.length:=aaJ _ _
    exact AO8
   have hnr:∀ (a:Int) (l:Nat),D7 [[Cl.v (.int .i64 a),.ref l]]=false:=fun _ _=>rfl
   simp only[go_sem,aW,bn,ae,AA _ hk',hk',hol2,hnr,ak,wrap_i64 (n:=(k:Int)+1) AQ2 AQ2]
   refine⟨(k+1,out ++ [l[k]]),⟨[(0,false),(5,true),(3,false)],⟨rfl,rfl,rfl,FH DRow.o_nr _ out rfl,AP DVal.pure,trivial⟩,.inr ⟨out.length,out.map DRow.o ++ [DRow.o l[k]],_,DRow.o l[k],_,⟨bD 1,rfl,FD DRow.o_nr _ out _ _,AQ3,rfl⟩,
    ⟨rfl,rfl,rfl,rfl,rfl,rfl,BH _,ARF,fun l hl=>ARA⟩,⟨rfl, ?tr⟩, ?eq⟩⟩,⟨hk',by rw[← hb,aZ]⟩,AQ4⟩
   case tr=>unfold Am; rw[Ae]; exact all2 rfl (AU (AO _))
   case eq=>unfold Am; rw[Ae]; rfl
  ·have hp:Uz w ts l[k]=false:=by simp[Uz,hc]
   rw[bu (by simp[hp]),aG] at hb
   simp only[go_sem,ae,AA _ hk',hk',hc,ak,wrap_i64 (n:=(k:Int)+1) AQ2 AQ2]
   refine⟨(k+1,out),⟨[(0,false),(1,true)],⟨rfl,rfl,rfl,Bc (AO _),trivial⟩,.inl ?eq⟩,⟨hk',hb⟩,AQ4⟩
   case eq =>
    show (⟨31,_,[_,⟨201,2,(out.map DRow.o).map (fun x=>x.map (NM [(0,false),(1,true)])),true,true⟩]⟩:MS)=_
    exact AQk
 ·exact AOo
theorem ABD (w:DWorld) (l:List DRow) (ts:Int) (hm:w.m.length≤1048576) (hl:Pg Aw l) :
  Ctr prog 171 [.agg w.c,.c (.sl (l.map DRow.c)),.c (.v (.int .i64 ts))] [.own 201 2 ((kept w l ts).map DRow.o) true]:=by
 refine CM call171 func171 ntmps171 results171 fun hw=>?_
 simp only[go_sem,ae]
 refine AE1 2 1 [1,2,3,7,8] (A:=Nat×List DRow) (fun x=>⟨37,[(1,.c (.sl (l.map DRow.c))),(2,.c (.v (.int .i64 ts))),(3,.lp 0 0 0),(7,.c (.ref 1)),(8,.c (.v (.int .i64 x.1)))],[⟨46,14,[w.c],true,true⟩,⟨201,2,x.2.map DRow.o,true,true⟩]⟩)
  (fun x=>x.1≤l.length∧x.2++kept w (l.drop x.1) ts=kept w l ts) (fun x=>l.length-x.1) (0,[]) [(0,false),(1,false)] ⟨⟨rfl,rfl,rfl,rfl,trivial⟩,rfl⟩ ⟨au _,rfl⟩ ?_
 rintro⟨k,out⟩ ⟨hk,hb⟩
 dsimp only at hk hb
 have hol:out.length≤l.length:=by
  have h1:(kept w l ts).length≤l.length:=aaJ _ _
  exact APi
 have hlen:=hl.1
 refine AQy (fun h=>?_) fun h=>?_
 ·have hk':k<l.length:=by simpa using h
  rw[nS hk'] at hb
  have hr:=hl.2 _ (aj hk')
  rw[DN] at hr
  have hrl:=hr.1
  simp only[go_sem,ae,AA _ hk',hk',ak]
  try refine AAO ?_
  try simp only[go_sem,ae,AA _ hk',hk']
  first | refine CY (WY w l[k].id hm) ?_ | refine CW (WY w l[k].id hm) fun _=>?_
  simp only[go_sem,ae,AA _ hk',hk']
  first | refine AAS _ (Q4 (LX w l[k].id) ts) ?_ | refine AAN _ (Q4 (LX w l[k].id) ts) fun _=>?_
  rcases hc:came (LX w l[k].id) ts with _ | _
  ·have hp:Uz w ts l[k]=true:=by simp[Uz,hc]
   rw[bG hp] at hb
   simp only[go_sem,ae,AA _ hk',hk',hc,ak,wrap_i64 (n:=(k:Int)+1) AQ2 AQ2]
   refine CW (Hz l[k] hrl) fun _=>?_
   have hol2:out.length+1≤1099511627776:=by
    have h1:(kept w l ts).length≤l.length:=aaJ _ _
    exact AO8
   have hnr:∀ (a:Int) (l:Nat),D7 [[Cl.v (.int .i64 a),.ref l]]=false:=fun _ _=>rfl
   simp only[go_sem,aW,bn,ae,AA _ hk',hk',hol2,hnr,ak,wrap_i64 (n:=(k:Int)+1) AQ2 AQ2]
   refine⟨(k+1,out ++ [l[k]]),⟨[(0,false),(5,true),(2,false)],⟨rfl,rfl,rfl,FH DRow.o_nr _ out rfl,AP DVal.pure,trivial⟩,.inr ⟨out.length,out.map DRow.o ++ [DRow.o l[k]],_,DRow.o l[k],_,⟨bD 1,rfl,FD DRow.o_nr _ out _ _,AQ3,rfl⟩,
    ⟨rfl,rfl,rfl,rfl,rfl,rfl,BH _,ARF,fun l hl=>ARA⟩,⟨rfl, ?tr⟩, ?eq⟩⟩,⟨hk',by rw[← hb,aZ]⟩,AQ4⟩
   case tr=>unfold Am; rw[Ae]; exact all2 rfl (AU (AO _))
   case eq=>unfold Am; rw[Ae]; rfl
  ·have hp:Uz w ts l[k]=false:=by simp[Uz,hc]
   rw[bu (by simp[hp]),aG] at hb
   simp only[go_sem,ae,AA _ hk',hk',hc,ak,wrap_i64 (n:=(k:Int)+1) AQ2 AQ2]
   refine⟨(k+1,out),⟨[(0,false),(1,true)],⟨rfl,rfl,rfl,Bc (AO _),trivial⟩,.inl ?eq⟩,⟨hk',hb⟩,AQ4⟩
   case eq =>
    show (⟨37,_,[_,⟨201,2,(out.map DRow.o).map (fun x=>x.map (NM [(0,false),(1,true)])),true,true⟩]⟩:MS)=_
    exact AQk
 ·exact AOo
def Fa (c:DChunk) (first ts:Int):Nat→List DRow
 | 0=>[]
 | k+1=>match c.l[k]? with
  | some x=>if came x.ins ts=true then Fa c first ts k ++ [⟨IntKind.i64.wrap (first+k),x.l⟩] else Fa c first ts k
  | none=>Fa c first ts k
def ZJ (c:DChunk) (first ts:Int):List DRow:=Fa c first ts c.l.length
def LY (c:DChunk) (ts:Int):Nat→Nat
 | 0=>0
 | k+1=>match c.l[k]? with
  | some x=>if came x.ins ts=true then LY c ts k+1 else LY c ts k
  | none=>LY c ts k
theorem JO (c:DChunk) (first ts:Int):∀ k,(Fa c first ts k).length=LY c ts k
 | 0=>rfl
 | k+1=>by
  simp only[Fa,LY]
  split
  ·split
   ·simp[JO c first ts k]
   ·exact JO c first ts k
  ·exact JO c first ts k
theorem Nr (c:DChunk) (ts:Int):∀ k,LY c ts k≤k
 | 0=>aI _
 | k+1=>by
  have:=Nr c ts k
  simp only[LY]
  split
  ·split<;>omega
  ·omega
theorem We {c:DChunk} {first ts:Int} {k:Nat} (hk:k<c.l.length) (h:came c.l[k].ins ts=true):Fa c first ts (k+1)=Fa c first ts k ++ [⟨IntKind.i64.wrap (first+k),c.l[k].l⟩]:=by
 simp[Fa,hk,h]
theorem ZK {c:DChunk} {first ts:Int} {k:Nat} (hk:k<c.l.length) (h:came c.l[k].ins ts=false):Fa c first ts (k+1)=Fa c first ts k:=by
 simp[Fa,hk,h]
theorem rG (c:DChunk) (first ts:Int) (hf:E5 c):Ctr prog 280 [.agg c.c,.c (.v (.int .i64 (first))),.c (.v (.int .i64 (ts)))] [.own 201 2 ((ZJ c first ts).map DRow.o) true]:=by
 refine CM call280 func280 ntmps280 results280 fun hw=>?_
 rw[DY] at hf
 have hlen:=hf.1
 simp only[go_sem]
 refine AE1 2 1 [1,2,3,7,12,13,14] (A:=Nat×List DRow) (fun x=>⟨35,[(1,.c (.v (.int .i64 (first)))),(2,.c (.v (.int .i64 (ts)))),(3,.lp 0 0 0),(7,.c (.ref 1)),(12,.c (.sl (c.l.map DSlot.c))),(13,.c (.v (.int .i64 (c.l.length)))),(14,.c (.v (.int .i64 (x.1))))],[⟨168,2,[c.c],true,true⟩,⟨201,2,x.2.map DRow.o,true,true⟩]⟩)
  (fun x=>x.1≤c.l.length∧x.2=Fa c first ts x.1) (fun x=>c.l.length-x.1) (0,[]) [(0,false),(1,false)] ⟨⟨rfl,rfl,rfl,rfl,trivial⟩,rfl⟩ ⟨au _,rfl⟩ ?_
 rintro⟨k,out⟩ ⟨hk,hb⟩
 dsimp only at hk hb
 have hol:out.length≤k:=by rw[hb,JO]; exact Nr _ _ _
 refine AQx (fun h=>?_) fun h=>?_
 ·have hk':k<c.l.length:=by simpa using h
  have hs:=hf.2 _ (aj hk')
  rw[Jw] at hs
  have hsl:=hs.1
  have hwk:IntKind.i64.wrap ((k:Int)+1)=(k:Int)+1:=wrap_i64 AQ2 AQ2
  simp only[go_sem,AA _ hk',hk']
  try refine AAO ?_
  try simp only[go_sem,AA _ hk',hk']
  first | refine AAS _ (Q5 c.l[k].ins ts) ?_ | refine AAN _ (Q5 c.l[k].ins ts) fun _=>?_
  rcases hc:came c.l[k].ins ts with _ | _
  ·simp only[go_sem,AA _ hk',hk',hc,hwk]
   refine⟨(k+1,out),⟨[(0,false),(1,true)],⟨rfl,rfl,rfl,Bc (AO _),trivial⟩,.inl ?eq⟩,⟨hk',by rw[ZK hk' hc]; exact hb⟩,AQ4⟩
   case eq =>
    show (⟨35,_,[_,⟨201,2,(out.map DRow.o).map (fun x=>x.map (NM [(0,false),(1,true)])),true,true⟩]⟩:MS)=_
    exact AQk
  ·have hnr:∀ (a:Int) (l:Nat),D7 [[Cl.v (.int .i64 a),.ref l]]=false:=fun _ _=>rfl
   have hol2:out.length+1≤2147483648:=AQ2
   have hsl2:c.l[k].l.length≤2147483648:=AQ2
   simp only[go_sem,AA _ hk',hk',hc,hwk]
   refine AAN _ (DZ c.l[k].l hsl) fun _=>?_
   simp only[go_sem,AA _ hk',hk',hol2,hnr,hwk]
   exact AI3
 ·have hk':k=c.l.length:=by simp at h; omega
  subst hk'
  have:out=ZJ c first ts:=hb
  subst this
  simp only[go_sem,AO]
  try exact AHA
theorem Wh (c:DChunk) (first ts:Int) (hf:E5 c):Ctr prog 271 [.agg c.c,.c (.v (.int .i64 (first))),.c (.v (.int .i64 (ts)))] [.own 201 2 ((ZJ c first ts).map DRow.o) true]:=by
 refine CM call271 func271 ntmps271 results271 fun hw=>?_
 rw[DY] at hf
 have hlen:=hf.1
 simp only[go_sem]
 refine AE1 2 1 [1,2,3,7,8] (A:=Nat×List DRow) (fun x=>⟨41,[(1,.c (.v (.int .i64 (first)))),(2,.c (.v (.int .i64 (ts)))),(3,.lp 0 0 0),(7,.c (.ref 1)),(8,.c (.v (.int .i64 (x.1))))],[⟨168,2,[c.c],true,true⟩,⟨201,2,x.2.map DRow.o,true,true⟩]⟩)
  (fun x=>x.1≤c.l.length∧x.2=Fa c first ts x.1) (fun x=>c.l.length-x.1) (0,[]) [(0,false),(1,false)] ⟨⟨rfl,rfl,rfl,rfl,trivial⟩,rfl⟩ ⟨au _,rfl⟩ ?_
 rintro⟨k,out⟩ ⟨hk,hb⟩
 dsimp only at hk hb
 have hol:out.length≤k:=by rw[hb,JO]; exact Nr _ _ _
 refine AQx (fun h=>?_) fun h=>?_
 ·have hk':k<c.l.length:=by simpa using h
  have hs:=hf.2 _ (aj hk')
  rw[Jw] at hs
  have hsl:=hs.1
  have hwk:IntKind.i64.wrap ((k:Int)+1)=(k:Int)+1:=wrap_i64 AQ2 AQ2
  simp only[go_sem,AA _ hk',hk']
  try refine AAO ?_
  try simp only[go_sem,AA _ hk',hk']
  first | refine AAS _ (Q4 c.l[k].ins ts) ?_ | refine AAN _ (Q4 c.l[k].ins ts) fun _=>?_
  rcases hc:came c.l[k].ins ts with _ | _
  ·simp only[go_sem,AA _ hk',hk',hc,hwk]
   refine⟨(k+1,out),⟨[(0,false),(1,true)],⟨rfl,rfl,rfl,Bc (AO _),trivial⟩,.inl ?eq⟩,⟨hk',by rw[ZK hk' hc]; exact hb⟩,AQ4⟩
   case eq =>
    show (⟨41,_,[_,⟨201,2,(out.map DRow.o).map (fun x=>x.map (NM [(0,false),(1,true)])),true,true⟩]⟩:MS)=_
    exact AQk
  ·have hnr:∀ (a:Int) (l:Nat),D7 [[Cl.v (.int .i64 a),.ref l]]=false:=fun _ _=>rfl
   have hol2:out.length+1≤2147483648:=AQ2
   have hsl2:c.l[k].l.length≤2147483648:=AQ2
   simp only[go_sem,AA _ hk',hk',hc,hwk]
   simp only[go_sem,AA _ hk',hk',RV,IY,hsl2,hol2,hnr,hwk]
   exact AI3
 ·have hk':k=c.l.length:=by simp at h; omega
  subst hk'
  have:out=ZJ c first ts:=hb
  subst this
  simp only[go_sem,AO]
  try exact AHA
noncomputable def Wi (w:DWorld) (r:DRef):List DRow:=if(r.kind==2&&there w r)=true then Ec w r else []
noncomputable def II (w:DWorld) (r:DRef) (ts:Int):List DRow:=if(Dw w r).2=true then ZJ (Dw w r).1 r.first ts else Wi w r
theorem iG:∀ (cs:List Int) (vs:List DVal),fits cs vs=true→vs.length=cs.length∧∀ v∈vs,BO v=true
 | [],[],_=>⟨rfl,fun v hv=>by cases hv⟩
 | [],_::_,h=>by simp[fits] at h
 | _::_,[],h=>by simp[fits] at h
 | c::cs,v::vs,h=>by
  simp only[fits,az] at h
  obtain⟨h1,h2⟩:=iG cs vs h.2
  refine⟨by simp[h1],fun x hx=>?_⟩
  rcases Rx.1 hx with rfl | hx
  ·exact h.1.1
  ·exact h2 x hx
theorem rH (w:DWorld) (r:DRef):fitS Aw (Ec w r):=by
 unfold Ec
 split
 ·exact⟨au _,fun x hx=>by cases hx⟩
 ·rename_i b hb
  rcases h:CQ w.c0.cols b.g with _ | l
  ·exact⟨au _,fun x hx=>by cases hx⟩
  ·obtain⟨h1,h2,h3⟩:=Uf (Tf h)
   refine⟨by simp only[ak]; omega,fun x hx=>?_⟩
   obtain⟨q1,q2⟩:=iG _ _ (h3 x hx).2.2
   rw[DN]
   refine⟨AQ2,fun v hv=>?_⟩
   have:=Vo (q2 v hv)
   rw[UG]; omega
theorem Ns {c:DChunk} (first ts:Int) (hf:E5 c):∀ k,∀ r∈Fa c first ts k,Aw r
 | 0,r,hr=>by cases hr
 | k+1,r,hr=>by
  simp only[Fa] at hr
  split at hr
  ·rename_i x hx
   split at hr
   ·rcases lN.1 hr with hr | hr
    ·exact Ns first ts hf k r hr
    ·rw[aay.1 hr]
     rw[DY] at hf
     exact hf.2 x (bI hx)
   ·exact Ns first ts hf k r hr
  ·exact Ns first ts hf k r hr
theorem ADw {c:DChunk} (first ts:Int) (hf:E5 c):fitS Aw (ZJ c first ts):=by
 refine⟨?_,Ns first ts hf _⟩
 have h:=hf
 rw[DY] at h
 have h1:=h.1
 unfold ZJ
 rw[JO]
 exact aba (Nr _ _ _) h1
theorem YI (w:DWorld) (r:DRef) (hf:AZ w):Ctr prog 244 [.agg w.c,.agg r.c] [.own 201 2 ((Wi w r).map DRow.o) true]:=by
 refine CM call244 func244 ntmps244 results244 fun hw=>?_
 rcases h1:r.kind != 2 with _ | _
 ·have hk1:(r.kind==2)=true:=by simpa using h1
  simp only[go_sem,h1,hk1,Wi,ah]
  try refine AAO ?_
  try simp only[go_sem,h1]
  first | refine CY (Fz w r) ?_ | refine CW (Fz w r) fun _=>?_
  rcases h2:there w r with _ | _
  ·simp only[go_sem,h1,h2]
   try exact AHA
  ·obtain⟨k,hk,hb,hat⟩ | ⟨hb,hat⟩:=Eb w r.buf
   ·have hbo:=UW hw.1 hk
    have hg:Ec w r=(CQ w.c0.cols w.b[k].g).getD []:=by simp only[Ec,hat]
    have hgs:=TW w.c0.cols w.b[k].g hbo (Q8 hf hk).2
    simp only[go_sem,h1,h2,hb,AA _ hk,hk,hg]
    rcases hgg:CQ w.c0.cols w.b[k].g with _ | l<;>rw[hgg] at hgs<;>simp only[X8] at hgs
    ·refine AAR ?_
     simp only[go_sem,h1,h2,hb,AA _ hk,hk]
     refine ABO _ hgs ?_
     simp only[go_sem]
     try simp[OwnL,AC,D7]
     rw[aC hk]; rfl
    ·refine AAR ?_
     simp only[go_sem,h1,h2,hb,AA _ hk,hk]
     refine ABO _ hgs ?_
     simp only[go_sem,AO]
     try simp[OwnL,AC]
     rw[aC hk]; rfl
   ·exact AQu
 ·have hk1:(r.kind==2)=false:=by simpa using h1
  simp only[go_sem,h1,hk1,Wi,ag]
  try refine AAO ?_
  try simp only[go_sem,h1,hk1]
  try exact AHA
theorem nT (w:DWorld) (r:DRef) (hf:AZ w):E5 (Dw w r).1:=by
 unfold Dw
 rcases Eb w r.buf with ⟨k,hk,hb,hat⟩ | ⟨hb,hat⟩
 ·rw[hat]
  have:=(Q8 hf hk).1
  dsimp only
  split
  ·exact this
  ·rw[DY]; exact⟨au _,fun x hx=>by cases hx⟩
 ·rw[hat,DY]; exact⟨au _,fun x hx=>by cases hx⟩
theorem ADx (w:DWorld) (r:DRef):fitS Aw (Wi w r):=by
 unfold Wi
 split
 ·exact rH w r
 ·exact⟨au _,fun x hx=>by cases hx⟩
theorem iH (w:DWorld) (r:DRef) (ts:Int) (hf:AZ w):fitS Aw (II w r ts):=by
 unfold II
 split
 ·exact ADw _ _ (nT w r hf)
 ·exact ADx w r
theorem rJ (w:DWorld) (r:DRef) (ts:Int) (hf:AZ w):Ctr prog 178 [.agg w.c,.agg r.c,.c (.v (.int .i64 (ts)))] [.own 201 2 ((II w r ts).map DRow.o) true]:=by
 refine CM call178 func178 ntmps178 results178 fun hw=>?_
 simp only[go_sem]
 refine CW (L6 w r) fun _=>?_
 have hfc:=nT w r hf
 unfold II
 generalize (Dw w r).1=c at hfc ⊢
 generalize (Dw w r).2=ok
 rcases ok with _ | _
 ·simp only[go_sem]
  refine CW (YI w r hf) fun _=>?_
  simp only[go_sem,AO]
  try exact AHA
 ·simp only[go_sem]
  refine CW (rG c r.first ts hfc) fun _=>?_
  simp only[go_sem,AO]
  try exact AHA
theorem rM (w:DWorld) (r:DRef) (ts:Int) (hf:AZ w):Ctr prog 170 [.agg w.c,.agg r.c,.c (.v (.int .i64 (ts)))] [.own 201 2 ((II w r ts).map DRow.o) true]:=by
 refine CM call170 func170 ntmps170 results170 fun hw=>?_
 simp only[go_sem]
 refine CW (Md w r) fun _=>?_
 rcases ta:there w r with _ | _
 ·have hc:(Dw w r).2=false:=by
   unfold Dw
   unfold there at ta
   split
   ·rfl
   ·rename_i b hb
    simp only[hb] at ta
    simp[ta]
  have he:II w r ts = []:=by simp[II,hc,Wi,ta]
  rw[he]
  simp only[go_sem]
  try exact AHA
 obtain⟨k,hk,hb,hat⟩ | ⟨hb,hat⟩:=Eb w r.buf
 rotate_left
 ·simp only[there,hat] at ta
  cases ta
 have tb:Q7 w.b[k] r=true:=by simp only[there,hat] at ta; exact ta
 rcases k1:r.kind==1 with _ | _
 ·have hc:(Dw w r).2=false:=by simp[Dw,hat,k1]
  rcases k2:r.kind==2 with _ | _
  ·have he:II w r ts = []:=by simp[II,hc,Wi,k2]
   rw[he]
   simp only[go_sem,k1,k2]
   try exact AHA
  ·have he:II w r ts=Ec w r:=by simp[II,hc,Wi,k2,ta]
   rw[he]
   simp only[go_sem,k1,k2]
   try refine AAR ?_
   try simp only[go_sem,k1,k2]
   first | refine CW (OG w r hf hk hb) fun _=>?_ | refine CZ (OG w r hf hk hb) ?_
   simp only[go_sem]
   first | refine AAN _ (IU (Ec w r) (rH w r)) fun _=>?_ | refine ABO _ (IU (Ec w r) (rH w r)) ?_
   simp only[go_sem,AO]
   try exact AHA
 ·have hc:Dw w r=(w.b[k].c0,true):=by simp[Dw,hat,tb,k1]
  have he:II w r ts=ZJ w.b[k].c0 r.first ts:=by simp[II,hc]
  rw[he]
  simp only[go_sem,k1,hb,AA _ hk,hk]
  try refine AAR ?_
  try simp only[go_sem,k1,hb,AA _ hk,hk]
  first | refine CW (Wh w.b[k].c0 r.first ts (Q8 hf hk).1) fun _=>?_ | refine CZ (Wh w.b[k].c0 r.first ts (Q8 hf hk).1) ?_
  simp only[go_sem,AO]
  try simp[OwnL,AC]
  rw[aC hk]; rfl
noncomputable def JW (w:DWorld) (ts:Int) (k:Nat):List DRow:=((w.d.l.take k).map fun r=>II w r ts).flatten
noncomputable def Lr (w:DWorld) (ts:Int):List DRow:=kept w (JW w ts w.d.l.length) ts
theorem MP {w:DWorld} {ts:Int} {k:Nat} (h:k<w.d.l.length):JW w ts (k+1)=JW w ts k++II w w.d.l[k] ts:=by
 unfold JW
 rw[abR,aC h,bQ,aaS]
 simp
theorem iI (w:DWorld) (ts:Int) (hf:AZ w):∀ k,k≤w.d.l.length→(JW w ts k).length≤k*1048576
 | 0,_=>by simp[JW]
 | k+1,h=>by
  have h1:=iI w ts hf k AQ2
  have h2:=(iH w w.d.l[k] ts hf).1
  rw[MP AQ2,aN]
  omega
theorem Oa (w:DWorld) (ts:Int) (hf:AZ w) {k:Nat} (hk:k≤w.d.l.length):Pg Aw (JW w ts k):=by
 refine⟨?_,fun r hr=>?_⟩
 ·have h1:=iI w ts hf k hk
  have h2:=uM hf
  have h3:k*1048576≤1048576*1048576:=aaG _ AQ2
  omega
 ·unfold JW at hr
  obtain⟨l,hl,hrl⟩:=abr.1 hr
  obtain⟨x,_,rfl⟩:=UT.1 hl
  exact(iH w x ts hf).2 r hrl
theorem xO {w:DWorld} (hf:AZ w):w.m.length≤1048576:=by
 rw[Ai] at hf
 exact hf.2.2.2.1
theorem AFa {w:DWorld} {l:List DRow} {ts:Int} (h:Pg Aw l):Pg Aw (kept w l ts):=
 ⟨aba (aaJ _ _) h.1,fun x hx=>h.2 x (List.mem_filter.1 hx).1⟩
theorem PK (w:DWorld) (ts:Int) (hf:AZ w):Pg Aw (Lr w ts):=AFa (Oa w ts hf (aI _))
theorem AHU (l:List DVal):JD (l.map DVal.c)=true:=by
 exact AQi
theorem ACW (l:List DRow):JD (l.map DRow.o)=true:=by
 induction l with
 | nil=>rfl
 | cons c l ih=>simp only[TA,JD,ih,aF,DRow.o_eq,aT,aG,EP,Hr,AHU]
theorem U0 (w:DWorld) (ts:Int) (hf:AZ w):Ctr prog 93 [.agg w.c,.c (.v (.int .i64 (ts)))] [.own 201 2 ((Lr w ts).map DRow.o) true]:=by
 refine CM call93 func93 ntmps93 results93 fun hw=>?_
 have hrl:=uM hf
 have hml:=xO hf
 simp only[go_sem]
 refine AAU [8] (A:=Nat) (fun x=>[(13,.c (.v (.int .i64 (x)))),(5,.c (.ref 1))]) (fun x=>[⟨46,14,[w.c],true,true⟩,⟨201,2,(JW w ts x).map DRow.o,true,true⟩]) (fun x=>x≤w.d.l.length) (fun x=>w.d.l.length-x) 0 (AAQ [(0,false),(1,false)] ⟨rfl,rfl,rfl,rfl,trivial⟩ rfl) (au _) ?_
 intro k hk
 refine AQx (fun h=>?_) fun h=>?_
 ·have hk':k<w.d.l.length:=by simpa using h
  have hwk:IntKind.i64.wrap ((k:Int)+1)=(k:Int)+1:=wrap_i64 AQ2 AQ2
  have hnr:D7 ((JW w ts k).map DRow.o++(II w w.d.l[k] ts).map DRow.o)=true:=by rw[← bQ]; exact AO _
  have hb:=(Oa w ts hf (k:=k+1) hk').1
  rw[MP hk',aN] at hb
  simp only[go_sem,AA _ hk',hk',hwk]
  refine CW (rJ w w.d.l[k] ts hf) fun _=>?_
  simp only[go_sem,AA _ hk',hk',hb,hwk]
  refine⟨k+1,AAQ [(0,false),(4,true)] ⟨rfl,rfl,rfl,Bc hnr,trivial⟩ ?_,hk',AQ2⟩
  show (⟨28,_,[_,⟨201,2,((JW w ts k).map DRow.o++(II w w.d.l[k] ts).map DRow.o).map (fun x=>x.map (NM [(0,false),(4,true)])),true,true⟩]⟩:MS)=_
  rw[BM hnr,MP hk',bQ]
  rfl
 ·have hk':k=w.d.l.length:=by simp at h; omega
  subst hk'
  simp only[go_sem]
  refine ABQ (args:=[.agg w.c,.c (.sl ((JW w ts w.d.l.length).map DRow.c)),.c (.v (.int .i64 (ts)))]) [.own 201 2 ((Lr w ts).map DRow.o) true] (by simp only[DW,go_sem]) (by simp only[aW,O7,ACW,bn,aF]) (ABC w _ ts hml (Oa w ts hf (aI _))) fun _=>?_
  simp only[go_sem,AO]
  try exact AHA
theorem U1 (w:DWorld) (ts:Int) (hf:AZ w):Ctr prog 88 [.agg w.c,.c (.v (.int .i64 (ts)))] [.own 201 2 ((Lr w ts).map DRow.o) true]:=by
 refine CM call88 func88 ntmps88 results88 fun hw=>?_
 have hrl:=uM hf
 have hml:=xO hf
 simp only[go_sem]
 refine AAU [7] (A:=Nat) (fun x=>[(6,.c (.v (.int .i64 (x)))),(5,.c (.ref 1))]) (fun x=>[⟨46,14,[w.c],true,true⟩,⟨201,2,(JW w ts x).map DRow.o,true,true⟩]) (fun x=>x≤w.d.l.length) (fun x=>w.d.l.length-x) 0 (AAQ [(0,false),(1,false)] ⟨rfl,rfl,rfl,rfl,trivial⟩ rfl) (au _) ?_
 intro k hk
 refine AQx (fun h=>?_) fun h=>?_
 ·have hk':k<w.d.l.length:=by simpa using h
  have hwk:IntKind.i64.wrap ((k:Int)+1)=(k:Int)+1:=wrap_i64 AQ2 AQ2
  have hnr:D7 ((JW w ts k).map DRow.o++(II w w.d.l[k] ts).map DRow.o)=true:=by rw[← bQ]; exact AO _
  have hb:=(Oa w ts hf (k:=k+1) hk').1
  rw[MP hk',aN] at hb
  simp only[go_sem,AA _ hk',hk',hwk]
  refine AAR ?_
  simp only[go_sem,AA _ hk',hk',hb,hwk]
  refine CZ (rM w w.d.l[k] ts hf) ?_
  simp only[go_sem,AA _ hk',hk',hb,hwk]
  refine⟨k+1,AAQ [(0,false),(3,true)] ⟨rfl,rfl,rfl,Bc hnr,trivial⟩ ?_,hk',AQ2⟩
  show (⟨31,_,[_,⟨201,2,((JW w ts k).map DRow.o++(II w w.d.l[k] ts).map DRow.o).map (fun x=>x.map (NM [(0,false),(3,true)])),true,true⟩]⟩:MS)=_
  rw[BM hnr,MP hk',bQ]
  rfl
 ·have hk':k=w.d.l.length:=by simp at h; omega
  subst hk'
  simp only[go_sem]
  refine ABQ (args:=[.agg w.c,.c (.sl ((JW w ts w.d.l.length).map DRow.c)),.c (.v (.int .i64 (ts)))]) [.own 201 2 ((Lr w ts).map DRow.o) true] (by simp only[DW,go_sem]) (by simp only[aW,O7,ACW,bn,aF]) (ABD w _ ts hml (Oa w ts hf (aI _))) fun _=>?_
  simp only[go_sem,AO]
  try exact AHA
def ahead (a b:DDeed):Bool:=(a.ret != -1)&&decide (a.ret<b.inv)
theorem xP (a b:DDeed):Ctr prog 166 [.agg a.c,.agg b.c] [.val (.c (.v (.bool (ahead a b))))]:=by
 refine CM call166 func166 ntmps166 results166 fun hw=>?_
 exact APk
theorem xQ (a b:DDeed):Ctr prog 172 [.agg a.c,.agg b.c] [.val (.c (.v (.bool (ahead a b))))]:=by
 refine CM call172 func172 ntmps172 results172 fun hw=>?_
 exact APk
def late (a b:DDeed):Bool:=ahead a b&&(a.lin != -1)&&(b.lin != -1)&&decide (a.lin≥b.lin)
noncomputable def Qp (l:List DDeed):Bool:=@decide (∀ i k (hi:i<l.length) (hk:k<l.length),late l[i] l[k]=false) (Classical.propDecidable _)
theorem nU {l:List DDeed} {i k:Nat} (hi:i<l.length) (hk:k<l.length) (h:late l[i] l[k]=true):false=Qp l:=by
 symm
 simp only[Qp,aaD]
 intro hall
 rw[hall i k hi hk] at h
 cases h
theorem iJ {l:List DDeed} (h:∀ i k (hi:i<l.length) (hk:k<l.length),late l[i] l[k]=false):true=Qp l:=by
 symm
 simp only[Qp,bC]
 exact h
theorem Wj (l:List DDeed):Ctr prog 84 [.c (.sl (l.map DDeed.c))] [.val (.c (.v (.bool (Qp l))))]:=by
 refine CM call84 func84 ntmps84 results84 fun hw=>?_
 have hlen:l.length≤9223372036854775807:=ARP
 simp only[go_sem,ae]
 refine AAa 0 [0,3] (A:=Nat) (fun i=>⟨55,[(0,.c (.sl (l.map DDeed.c))),(3,.c (.v (.int .i64 i)))],[]⟩) (fun i=>i≤l.length∧∀ i' k (hi:i'<l.length) (hk:k<l.length),i'<i→late l[i'] l[k]=false) (fun i=>l.length-i) 0 ⟨⟨rfl,rfl⟩,rfl,au _,fun _ _ _ _ h=>AQ2⟩ ?_
 rintro i ⟨hi,hf⟩
 refine AQy (fun h=>?_) fun h=>?_
 ·have hi':i<l.length:=by simpa using h
  simp only[go_sem,ae]
  refine AAa 0 [0,3,4] (A:=Nat) (fun k=>⟨55,[(0,.c (.sl (l.map DDeed.c))),(3,.c (.v (.int .i64 i))),(4,.c (.v (.int .i64 k)))],[]⟩) (fun k=>k≤l.length∧∀ k' (hk:k'<l.length),k'<k→late l[i] l[k']=false) (fun k=>l.length-k) 0 ⟨⟨rfl,rfl⟩,rfl,au _,fun _ _ h=>AQ2⟩ ?_
  rintro k ⟨hk,hg⟩
  refine AQy (fun h=>?_) fun h=>?_
  ·have hk':k<l.length:=by simpa using h
   have hnext:late l[i] l[k]=false→∀ k' (hk:k'<l.length),k'<k+1→late l[i] l[k']=false:=by
    exact AQH
   simp only[go_sem]
   refine AAO ?_
   simp only[go_sem,ae,AA _ hi',AA _ hk',hi',hk']
   refine CY (xP l[i] l[k]) ?_
   rcases ha:ahead l[i] l[k] with _ | _<;>rcases h1:l[i].lin != -1 with _ | _<;>rcases h2:l[k].lin != -1 with _ | _<;>rcases h3:decide (l[i].lin≥l[k].lin) with _ | _ <;>
    simp only[go_sem,ae,AA _ hi',AA _ hk',hi',hk',ha,h1,h2,h3,wrap_i64 (n:=(k:Int)+1) AQ2 AQ2]<;>first
    | exact⟨k+1,⟨rfl,rfl⟩,rfl,⟨AQ2,hnext ARz⟩,AQ2⟩
    | (rw[← nU hi' hk' ARz]; done)
  ·exact AM2
 ·exact APW
theorem Wl (l:List DDeed):Ctr prog 89 [.c (.sl (l.map DDeed.c))] [.val (.c (.v (.bool (Qp l))))]:=by
 refine CM call89 func89 ntmps89 results89 fun hw=>?_
 have hlen:l.length≤9223372036854775807:=ARP
 simp only[go_sem,ae]
 refine AAa 0 [0,7,8,9] (A:=Nat) (fun i=>⟨41,[(0,.c (.sl (l.map DDeed.c))),(7,.c (.sl (l.map DDeed.c))),(8,.c (.v (.int .i64 l.length))),(9,.c (.v (.int .i64 i)))],[]⟩) (fun i=>i≤l.length∧∀ i' k (hi:i'<l.length) (hk:k<l.length),i'<i→late l[i'] l[k]=false) (fun i=>l.length-i) 0 ⟨⟨rfl,rfl⟩,rfl,au _,fun _ _ _ _ h=>AQ2⟩ ?_
 rintro i ⟨hi,hf⟩
 refine AQy (fun h=>?_) fun h=>?_
 ·have hi':i<l.length:=by simpa using h
  simp only[go_sem,ae,AA _ hi']
  refine AAa 1 [0,4,7,8,9,13,14,15] (A:=Nat) (fun k=>⟨41,[(0,.c (.sl (l.map DDeed.c))),(4,.lp 0 0 0),(7,.c (.sl (l.map DDeed.c))),(8,.c (.v (.int .i64 l.length))),(9,.c (.v (.int .i64 i))),(13,.c (.sl (l.map DDeed.c))),(14,.c (.v (.int .i64 l.length))),(15,.c (.v (.int .i64 k)))],[⟨162,25,[l[i].c],true,true⟩]⟩) (fun k=>k≤l.length∧∀ k' (hk:k'<l.length),k'<k→late l[i] l[k']=false) (fun k=>l.length-k) 0 ⟨⟨rfl,rfl⟩,by simp only[DDeed.c_eq,DQuery.c_eq,DPred.c_eq,DResult.c_eq,DVal.c_eq,aT,aG]; rfl,au _,fun _ _ h=>AQ2⟩ ?_
  rintro k ⟨hk,hg⟩
  refine AQy (fun h=>?_) fun h=>?_
  ·have hk':k<l.length:=by simpa using h
   have hnext:late l[i] l[k]=false→∀ k' (hk:k'<l.length),k'<k+1→late l[i] l[k']=false:=by
    exact AQH
   simp only[go_sem,AA _ hk']
   rcases h1:l[i].lin != -1 with _ | _<;>rcases h2:l[k].lin != -1 with _ | _
   all_goals simp only[go_sem,ae,AA _ hi',AA _ hk',hi',hk',h1,h2,wrap_i64 (n:=(k:Int)+1) AQ2 AQ2]
   iterate 3
    ·exact⟨k+1,⟨rfl,rfl⟩,rfl,⟨AQ2,hnext (by simp only[late,h1,h2,aK,ag])⟩,AQ2⟩
   ·refine CW (xQ l[i] l[k]) fun _=>?_
    rcases ha:ahead l[i] l[k] with _ | _<;>rcases h3:decide (l[i].lin≥l[k].lin) with _ | _ <;>
     simp only[go_sem,ha,h3,h1,h2,wrap_i64 (n:=(k:Int)+1) AQ2 AQ2]<;>first
     | exact⟨k+1,⟨rfl,rfl⟩,rfl,⟨AQ2,hnext ARz⟩,AQ2⟩
     | (rw[← nU hi' hk' ARz]; done)
  ·exact AM2
 ·exact APW
noncomputable def AHV (w:DWorld):Bool:=D_ w&&(Qp w.deeds&&((((Si (O5 w) (S_ w.deeds):Nat):Int)==((LC w.deeds).length:Int))&&F_ (allT (O5 w) (S_ w.deeds)).l (Lr w w.t)))
theorem ACX {w:DWorld} (hf:AZ w):Em (allT (O5 w) (S_ w.deeds)):=by
 rw[Ai,Es] at hf
 have hd:=iY hf.2.2.2.2.2.2.2
 exact ACV _ _ ARy hd.2 (by have:=hd.1; simp[O5]; omega)
theorem rO (w:DWorld) (hf:AZ w):Ctr prog 25 [.agg w.c] [.val (.c (.v (.bool (AHV w))))]:=by
 have hft:=ACX hf
 rw[Ce] at hft
 have hdl:w.deeds.length≤1048576:=by rw[Ai] at hf; exact hf.2.2.2.2.2.2.2.1
 refine CM call25 func25 ntmps25 results25 fun hw=>?_
 unfold AHV
 simp only[go_sem]
 try refine AAO ?_
 try simp only[go_sem]
 first | refine CY (Lt w hf) ?_ | refine CW (Lt w hf) fun _=>?_
 rcases h1:D_ w with _ | _
 ·exact AOH
 simp only[go_sem,h1,ah]
 try refine AAO ?_
 try simp only[go_sem]
 first | refine AAS _ (Wj w.deeds) ?_ | refine AAN _ (Wj w.deeds) fun _=>?_
 rcases h2:Qp w.deeds with _ | _
 ·exact AQQ
 simp only[go_sem,h2,ah]
 refine CW (iD w hf) fun _=>?_
 simp only[go_sem]
 try refine AAO ?_
 try simp only[go_sem]
 first | refine AAS _ (Sz w.deeds hdl) ?_ | refine AAN _ (Sz w.deeds hdl) fun _=>?_
 rcases h3:(((Si (O5 w) (S_ w.deeds):Nat):Int)==((LC w.deeds).length:Int)) with _ | _
 ·simp only[go_sem,ae,h3,ag]
 simp only[go_sem,ae,h3,ah]
 try refine AAO ?_
 try simp only[go_sem]
 first | refine AAS _ (by simpa only[go_sem] using(U1 w w.t hf).valO (DW _)) ?_ | refine AAN _ (by simpa only[go_sem] using(U1 w w.t hf).valO (DW _)) fun _=>?_
 simp only[go_sem]
 try refine AAO ?_
 try simp only[go_sem]
 first | refine AAS _ (OT _ (Lr w w.t) hft.2.big (PK w w.t hf)) ?_ | refine AAN _ (OT _ (Lr w w.t) hft.2.big (PK w w.t hf)) fun _=>?_
 exact AIu
theorem rP (w:DWorld) (hf:AZ w):Ctr prog 26 [.agg w.c] [.val (.c (.v (.bool (AHV w))))]:=by
 have hft:=ACX hf
 rw[Ce] at hft
 have hdl:w.deeds.length≤1048576:=by rw[Ai] at hf; exact hf.2.2.2.2.2.2.2.1
 refine CM call26 func26 ntmps26 results26 fun hw=>?_
 unfold AHV
 simp only[go_sem]
 try refine AAO ?_
 try simp only[go_sem]
 first | refine CY (Ls w hf) ?_ | refine CW (Ls w hf) fun _=>?_
 rcases h1:D_ w with _ | _
 ·exact AOH
 simp only[go_sem,h1,ah]
 try refine AAO ?_
 try simp only[go_sem]
 first | refine AAS _ (Wl w.deeds) ?_ | refine AAN _ (Wl w.deeds) fun _=>?_
 rcases h2:Qp w.deeds with _ | _
 ·exact AQQ
 simp only[go_sem,h2,ah]
 have hrep:=(iE w hf).frz
 simp only[TA,df,XG,DTable.o_er] at hrep
 refine CW (hrep) fun _=>?_
 simp only[go_sem]
 try refine AAO ?_
 try simp only[go_sem]
 first | refine AAS _ ((S9 w.deeds hdl).val (UR _)) ?_ | refine AAN _ ((S9 w.deeds hdl).val (UR _)) fun _=>?_
 rcases h3:(((Si (O5 w) (S_ w.deeds):Nat):Int)==((LC w.deeds).length:Int)) with _ | _
 ·simp only[go_sem,ae,h3,ag]
 simp only[go_sem,ae,h3,ah]
 try refine AAO ?_
 try simp only[go_sem]
 first | refine AAS _ (by simpa only[go_sem] using(U0 w w.t hf).valO (DW _)) ?_ | refine AAN _ (by simpa only[go_sem] using(U0 w w.t hf).valO (DW _)) fun _=>?_
 simp only[go_sem]
 try refine AAO ?_
 try simp only[go_sem]
 first | refine AAS _ (OU _ (Lr w w.t) hft.2.big (PK w w.t hf)) ?_ | refine AAN _ (OU _ (Lr w w.t) hft.2.big (PK w w.t hf)) fun _=>?_
 exact AIu
theorem iK (w:DWorld):Ctr prog 5 [.agg w.c] [.val (.c (.v (.bool true)))]:=by
 refine CM call5 func5 ntmps5 results5 fun hw=>?_
 simp only[go_sem]
 refine CW (Ql w 1048576 AQ2) fun _=>?_
 refine AQx (fun h=>?_) fun h=>?_
 ·exact AIu
 ·have hf:=(J8 w 1048576 ARD AQ2).1
  simp only[go_sem]
  refine CW (Bf w hf) fun _=>?_
  simp only[go_sem]
  refine CW (rO w hf) fun _=>?_
  simp only[go_sem]
  refine CW (Bf w hf) fun _=>?_
  simp only[go_sem]
  refine CW (rP w hf) fun _=>?_
  simp only[go_sem,aB,ax]
  try refine AAO ?_
  try simp only[go_sem]
  first | refine CY (Bf w hf) ?_ | refine CW (Bf w hf) fun _=>?_
  simp only[go_sem]
  first | refine CY (Et w) ?_ | refine CW (Et w) fun _=>?_
  exact AIu
end Go.Proofs.YthmifbbmgnhddaaGreat
