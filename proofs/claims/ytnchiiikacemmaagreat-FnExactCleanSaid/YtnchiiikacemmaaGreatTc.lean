/- A part. -/
import Derived.Test.YtnchiiikacemmaaGreatZm
set_option linter.unusedSimpArgs false
set_option linter.unusedVariables false
set_option maxHeartbeats 8000000
set_option maxRecDepth 10000
open Go.Proofs.Tryz
namespace Go.Proofs.YtnchiiikacemmaaGreat
open Go.Vm
theorem nrT {a1 a2 a3 a4 a5 a6 a7 a8 a9 b1 b2 b3 b4 b5 b6 b7 b8 b9:Int} {t1:ByteArray} {c1:Bool} {n1 n2 n3 n4 n5:Nat}:FT [[Cl.v (.int .i64 a1),Cl.v (.int .i64 a2),Cl.v (.int .i64 a3),.ref n1,Cl.v (.int .i64 a4),Cl.v (.int .i64 a5),Cl.v (.int .i64 a6),Cl.v (.int .i64 a7),Cl.v (.int .i64 a8),Cl.v (.int .i64 a9),Cl.v (.int .i64 b1),Cl.v (.string t1),.ref n2,Cl.v (.int .i64 b2),.ref n3,Cl.v (.int .i64 b3),Cl.v (.int .i64 b4),.ref n4,Cl.v (.int .i64 b5),Cl.v (.int .i64 b6),Cl.v (.int .i64 b7),Cl.v (.int .i64 b8),Cl.v (.int .i64 b9),Cl.v (.bool c1),.ref n5]]=false:=rfl
theorem nrD {a1 a2 a3 a4 a5 a6 a7 a8 a9 b1 b2 b3 b4 b5 b6 b7 b8 b9:Int} {t1 t2:ByteArray} {c1:Bool} {n1 n2 n3 n4:Nat}:FT [[Cl.v (.int .i64 a1),Cl.v (.int .i64 a2),.ref n1,Cl.v (.int .i64 a3),Cl.v (.int .i64 a5),Cl.v (.int .i64 a6),Cl.v (.int .i64 a7),Cl.v (.int .i64 a8),Cl.v (.int .i64 a9),Cl.v (.int .i64 b1),Cl.v (.string t1),.ref n2,Cl.v (.int .i64 b2),.ref n3,.ref n4,Cl.v (.int .i64 b3),Cl.v (.bool c1),Cl.v (.int .i64 b4),Cl.v (.int .i64 b5),Cl.v (.string t2),Cl.v (.int .i64 b6),Cl.v (.int .i64 b7),Cl.v (.int .i64 b8),Cl.v (.int .i64 b9),Cl.v (.int .i64 a4)]]=false:=rfl
theorem ni (l:List DDeed) (hl:fitS E8 l):Ctr prog 72 [.c (.sl (l.map DDeed.c))] [.own 132 25 (l.map DDeed.o) true]:=by
 refine CM call72 func72 ntmps72 results72 fun hw=>?_
 have hlen:=hl.1
 simp only[go_sem]
 refine LoopH.mk [6] (A:=Nat×List DDeed) (fun x=>[(4,.c (.v (.int .i64 (x.1)))),(3,.c (.ref 0))]) (fun x=>[⟨132,25,x.2.map DDeed.o,true,true⟩]) (fun x=>x.1≤l.length∧x.2.length≤x.1∧x.2++l.drop x.1=l) (fun x=>l.length-x.1) (0,[]) (Head.sel [(0,false)] ⟨rfl,rfl,rfl,trivial⟩ rfl) ⟨ak _,aK _,rfl⟩ ?_
 rintro⟨k,out⟩ ⟨hk,hol,hb⟩
 dsimp only at hk hol hb
 simp only[go_sem,ae]
 refine cndC.mk (fun h=>?_) (fun h=>?_)
 ·have hk':k<l.length:=by simpa using h
  rw[aC hk'] at hb
  have hr:=hl.2 _ (aj hk')
  have hol2:out.length+1≤2147483648:=by omega
  simp only[go_sem,AA _ hk']
  refine CW (lL l[k] hr) fun _=>?_
  simp only[go_sem,bK,Oo,hol2,nrD,az,aS,wrap_i64 (n:=(k:Int)+1) (by omega) (by omega)]
  refine⟨(k+1,out ++ [l[k]]),Head.selAbs [(7,true),(1,false),(2,true),(3,false),(4,true)] 1 0 ⟨rfl,rfl,Iy DDeed.o_nr _ out rfl,AO DVal.pure,Du (BL _),Bf _,Du (A8 _),trivial⟩ ⟨out.length,out.map DDeed.o ++ [DDeed.o l[k]],_,DDeed.o l[k],_,⟨lU 0,rfl,Iw DDeed.o_nr _ out _ _,by simp,rfl⟩,
   (by rw[DDeed.o_eq,DQuery.o_eq,DResult.o_eq,DPred.o_eq]; exact⟨rfl,rfl,rfl,rfl,rfl,rfl,rfl,rfl,CX _,by simp[En],rfl,rfl,rfl,rfl,rfl,rfl,rfl,rfl,rfl,rfl,rfl,rfl,rfl,rfl,rfl,rfl,rfl,rfl,DR (BL _),rfl,BL _,by simp[En],rfl,rfl,rfl,rfl,rfl,rfl,Aq _,by simp[En],rfl,rfl,DR (A8 _),rfl,A8 _,by simp[En],rfl,rfl,rfl,rfl,rfl,rfl,rfl,rfl,rfl,rfl,rfl,rfl,rfl,rfl,rfl,rfl,rfl,rfl,rfl,rfl,fun l hl=>by simp[En] at hl; omega⟩),⟨rfl, ?tr⟩, ?eq⟩,⟨hk',by simp; omega,(bJ _ _ _).trans hb⟩,by simp only; omega⟩
  case tr=>unfold Az; rw[Bc]; exact allA (AP (Jb _))
  case eq=>unfold Az; rw[Bc,Uz]; rfl
 ·have hk':k=l.length:=by simp at h; omega
  subst hk'
  rw[aO] at hb
  have:out=l:=by simpa using hb
  subst this
  simp only[go_sem,Jb]
  try simp
def wRow (w:DWorld) (tc dc:Cl):List Cl:=[.ref 3,.v (.int .i64 w.c0.slots),.v (.int .i64 w.c0.bufs),.v (.int .i64 w.time),.v (.int .i64 w.t),.v (.int .i64 w.e),.v (.int .i64 w.d.ver),.ref 4,.ref 5,.ref 6,.ref 7,.ref 8,tc,dc]
def wW:List Cl:=[.v (.slice none 0 0),.v (.int .i64 0),.v (.int .i64 0),.v (.int .i64 0),.v (.int .i64 0),.v (.int .i64 0),.v (.int .i64 0),.v (.slice none 0 0),.v (.slice none 0 0),.v (.slice none 0 0),.v (.slice none 0 0),.v (.slice none 0 0),.v (.slice none 0 0),.v (.slice none 0 0)]
@[go_sem] theorem AHQ (w:DWorld) (tc dc:Cl):wRow w tc dc = [.ref 3,.v (.int .i64 w.c0.slots),.v (.int .i64 w.c0.bufs),.v (.int .i64 w.time),.v (.int .i64 w.t),.v (.int .i64 w.e),.v (.int .i64 w.d.ver),.ref 4,.ref 5,.ref 6,.ref 7,.ref 8,tc,dc]:=rfl
@[go_sem] theorem AGE:wW = [.v (.slice none 0 0),.v (.int .i64 0),.v (.int .i64 0),.v (.int .i64 0),.v (.int .i64 0),.v (.int .i64 0),.v (.int .i64 0),.v (.slice none 0 0),.v (.slice none 0 0),.v (.slice none 0 0),.v (.slice none 0 0),.v (.slice none 0 0),.v (.slice none 0 0),.v (.slice none 0 0)]:=rfl
theorem AA0 {N:Nat} {a b c d e f g h i j:Ob} (ha:Aw N a=true) (hb:Aw N b=true) (hc:Aw N c=true) (hd:Aw N d=true) (he:Aw N e=true) (hf:Aw N f=true) (hg:Aw N g=true) (hh:Aw N h=true) (hi:Aw N i=true) (hj:Aw N j=true) : [a,b,c,d,e,f,g,h,i,j].all (Aw N)=true:=by simp[ha,hb,hc,hd,he,hf,hg,hh,hi,hj]
theorem Nq (w:DWorld) (hf:AU w):Ctr prog 35 [.agg w.c] [.agg w.o]:=by
 rw[BH,F8,Ht] at hf
 obtain⟨f1,f2,f3,f4,f5,f6,f7,f8⟩:=hf
 refine CM call35 func35 ntmps35 results35 fun hw=>?_
 have hlen:=f7.1
 have f1':w.c0.cols.length≤2147483648:=by omega
 have f4':w.m.length≤2147483648:=by omega
 have f5':w.x.length≤2147483648:=by omega
 have f6':w.p.length≤2147483648:=by omega
 simp only[go_sem,Qh,ae,f1',aS]
 refine CW (lF w.d f2) fun _=>?_
 simp only[go_sem]
 refine CallK.mk _ (WZ w.b f3) fun _=>?_
 simp only[go_sem,Qh,VS,ae,f4',f5',f6',aS]
 refine LoopH.mk [4,6,7,8,9,10,11,12,13,14,15,16,17,18,19,20,21,22,23,24,25,26,27,28,29,30,31,32,33,34,35,36,37,38,39,40] (A:=Nat×List DTask) (fun x=>[(5,.c (.v (.int .i64 (x.1))))]) (fun x=>[⟨45,14,[w.c],true,true⟩,⟨45,14,[wW],true,true⟩,⟨45,14,[wRow w (.ref 9) (.sl (w.deeds.map DDeed.c))],true,true⟩,⟨3,1,w.c0.cols.map intC,true,true⟩,⟨165,5,w.d.l.map DRef.c,true,true⟩,⟨112,5,w.b.map DBuf.o,true,true⟩,⟨3,1,w.m.map intC,true,true⟩,⟨115,3,w.x.map DDead.c,true,true⟩,⟨3,1,w.p.map intC,true,true⟩,⟨127,25,x.2.map DTask.o,true,true⟩]) (fun x=>x.1≤w.tasks.length∧x.2.length≤x.1∧x.2++w.tasks.drop x.1=w.tasks) (fun x=>w.tasks.length-x.1) (0,[]) (Head.sel [(0,false),(1,true),(2,true),(4,false),(5,false),(7,true),(9,false),(11,false),(13,false),(14,false)] ⟨rfl,rfl,rfl,rfl,rfl,Bf _,AO DRef.pure,Du (CE _),Bf _,AO DDead.pure,Bf _,rfl,trivial⟩ (by show (⟨65,_,[_,_,_,_,_,⟨112,5,(w.b.map DBuf.o).map (fun x=>x.map (Ql [(0,false),(1,true),(2,true),(4,false),(5,false),(7,true),(9,false),(11,false),(13,false),(14,false)])),true,true⟩,_,_,_,_]⟩:MS)=_; rw[DR (CE w.b)]; rfl)) ⟨ak _,aK _,rfl⟩ ?_
 rintro⟨k,out⟩ ⟨hk,hol,hb⟩
 dsimp only at hk hol hb
 simp only[go_sem,ae]
 refine cndC.mk (fun h=>?_) (fun h=>?_)
 ·have hk':k<w.tasks.length:=by simpa using h
  rw[aC hk'] at hb
  have hr:=f7.2 _ (aj hk')
  have hol2:out.length+1≤2147483648:=by omega
  simp only[go_sem,AA _ hk']
  refine CW (lK w.tasks[k] hr) fun _=>?_
  simp only[go_sem,bK,Oo,hol2,nrT,az,aS,wrap_i64 (n:=(k:Int)+1) (by omega) (by omega)]
  refine⟨(k+1,out ++ [w.tasks[k]]),Head.selAbs [(0,false),(1,true),(2,true),(3,false),(4,false),(5,true),(6,false),(7,false),(8,false),(17,true),(10,false),(11,true),(12,false),(13,false),(14,true)] 10 9 ⟨rfl,rfl,rfl,rfl,rfl,Bf _,AO DRef.pure,Du (CE _),Bf _,AO DDead.pure,Bf _,Iy DTask.o_nr _ out rfl,AO DVal.pure,Du (BL _),Bf _,AO DRef.pure,Du (A8 _),trivial⟩ ⟨out.length,out.map DTask.o ++ [DTask.o w.tasks[k]],_,DTask.o w.tasks[k],_,⟨lU 9,rfl,Iw DTask.o_nr _ out _ _,by simp,rfl⟩,
   (by rw[DTask.o_eq,DQuery.o_eq,DPred.o_eq]; exact⟨rfl,rfl,rfl,rfl,rfl,rfl,rfl,rfl,rfl,rfl,CX _,by simp[En],rfl,rfl,rfl,rfl,rfl,rfl,rfl,rfl,rfl,rfl,rfl,rfl,rfl,rfl,rfl,rfl,rfl,rfl,DR (BL _),rfl,BL _,by simp[En],rfl,rfl,rfl,rfl,rfl,rfl,Aq _,by simp[En],rfl,rfl,rfl,rfl,rfl,rfl,rfl,rfl,Et _,by simp[En],rfl,rfl,rfl,rfl,rfl,rfl,rfl,rfl,rfl,rfl,rfl,rfl,rfl,rfl,DR (A8 _),rfl,A8 _,by simp[En],fun l hl=>by simp[En] at hl; omega⟩),⟨rfl, ?tr⟩, ?eq⟩,⟨hk',by simp; omega,(bJ _ _ _).trans hb⟩,by simp only; omega⟩
  case tr =>
   unfold Az
   rw[Bc]
   show ([_,_,_,_,_,⟨112,5,(w.b.map DBuf.o).map (fun x=>x.map (Ql [(0,false),(1,true),(2,true),(3,false),(4,false),(5,true),(6,false),(7,false),(8,false),(17,true),(10,false),(11,true),(12,false),(13,false),(14,true)])),true,true⟩,_,_,_,_]:List Ob).all (Aw 10)=true
   rw[DR (CE w.b)]
   exact AA0 rfl rfl rfl (AP (Aq _)) (AP (Et _)) (AP (CE _)) (AP (Aq _)) (AP (G6 _)) (AP (Aq _)) (AP (GH _))
  case eq =>
   unfold Az
   rw[Bc,Uz]
   show (⟨65,_,[_,_,_,_,_,⟨112,5,(w.b.map DBuf.o).map (fun x=>x.map (Ql [(0,false),(1,true),(2,true),(3,false),(4,false),(5,true),(6,false),(7,false),(8,false),(17,true),(10,false),(11,true),(12,false),(13,false),(14,true)])),true,true⟩,_,_,_,_]⟩:MS)=_; rw[DR (CE w.b)]; rfl
 ·have hk':k=w.tasks.length:=by simp at h; omega
  subst hk'
  rw[aO] at hb
  have:out=w.tasks:=by simpa using hb
  rw[← this]
  simp only[go_sem]
  refine CallK.mk _ (ni w.deeds f8) fun _=>?_
  simp only[go_sem,Jb,GH,CE,Aq,Et,G6]
  try simp[AY]
@[go_sem] theorem AEV (k:Nat):Region.binds Region.Mode.any { on:=k,ground:=Ground.textOnly Departure.lateStores }=false:=rfl
@[go_sem] theorem ACi (k:Nat):Region.binds Region.Mode.any { on:=k,ground:=Ground.textOnly Departure.lateStoresUnsure }=false:=rfl
def ADl (w:DWorld):List Cl:=[.ref 2,.v (.int .i64 w.c0.slots),.v (.int .i64 w.c0.bufs),.v (.int .i64 w.time),.v (.int .i64 w.t),.v (.int .i64 w.e),.v (.int .i64 w.d.ver),.ref 4,.ref 5,.ref 6,.ref 8,.ref 9,.v (.slice none 0 0),.v (.slice none 0 0)]
theorem AGF {N:Nat} {a b c d e f g h i j k:Ob} (h1 : [a,b,c,d,e,f,g,h,i,j].all (Aw N)=true) (h2:Aw N k=true) : [a,b,c,d,e,f,g,h,i,j,k].all (Aw N)=true:=by simp only[bK,Oo,aU,ax] at h1 ⊢; simp[h1,h2]
theorem Oa (w:DWorld) (hf:AU w):Ctr prog 39 [.agg w.c] [.agg w.o]:=by
 rw[BH,F8,Ht] at hf
 obtain⟨f1,f2,f3,f4,f5,f6,f7,f8⟩:=hf
 refine CM call39 func39 ntmps39 results39 fun hw=>?_
 have hlen:=f7.1
 have hlen2:=f8.1
 have f5':w.x.length≤2147483648:=by omega
 simp only[go_sem]
 refine DrawK.mkA 18 3 (by kernel_rfl) ?_
 simp only[go_sem]
 refine CallE.mk _ (JF w.c0.cols f1) ?_
 simp only[go_sem]
 refine DrawK.mkE ?_
 simp only[go_sem]
 refine CZ (dJ w.d f2) ?_
 simp only[go_sem]
 refine CallE.mk _ (P7 w.b f3) ?_
 simp only[go_sem]
 refine CallE.mk _ (JF w.m f4) ?_
 simp only[go_sem]
 refine DrawK.mkE ?_
 simp only[go_sem,VS,ae,f5',aS]
 refine CallE.mk _ (JF w.p f6) ?_
 simp only[go_sem]
 refine LoopH.mk [8,9,10,11,12,13,14,15,16,17,18,19,20,21,22,23,24,25,26,27,28,29,30,31,32,33,34,35,36,37,38,39,40,41,42,43,44,45,46,47] (A:=Nat×List DTask) (fun x=>[(50,.c (.v (.int .i64 (x.1)))),(3,.lp 2 0 0)]) (fun x=>[⟨45,14,[w.c],true,true⟩,⟨45,14,[wW],true,true⟩,⟨45,14,[wRow w (.ref 9) (.v (.slice none 0 0))],true,true⟩,⟨3,1,w.c0.cols.map intC,true,true⟩,⟨165,5,w.d.l.map DRef.c,true,true⟩,⟨112,5,w.b.map DBuf.o,true,true⟩,⟨3,1,w.m.map intC,true,true⟩,⟨115,3,w.x.map DDead.c,true,true⟩,⟨3,1,w.p.map intC,true,true⟩,⟨127,25,x.2.map DTask.o,true,true⟩]) (fun x=>x.1≤w.tasks.length∧x.2.length≤x.1∧x.2++w.tasks.drop x.1=w.tasks) (fun x=>w.tasks.length-x.1) (0,[]) (Head.trans (Head.nilR 3 12 127 25 ⟨45,14,[ADl w],true,true⟩ (ADl w) rfl rfl rfl) (Head.sel [(0,false),(1,true),(3,true),(2,false),(4,false),(5,true),(6,false),(8,false),(9,false),(10,false)] ⟨rfl,rfl,rfl,rfl,rfl,Bf _,AO DRef.pure,Du (CE _),Bf _,AO DDead.pure,Bf _,rfl,trivial⟩ (by show (⟨78,_,[_,_,_,_,_,⟨112,5,(w.b.map DBuf.o).map (fun x=>x.map (Ql [(0,false),(1,true),(3,true),(2,false),(4,false),(5,true),(6,false),(8,false),(9,false),(10,false)])),true,true⟩,_,_,_,_]⟩:MS)=_; rw[DR (CE w.b)]; rfl))) ⟨ak _,aK _,rfl⟩ ?_
 ·rintro⟨k,out⟩ ⟨hk,hol,hb⟩
  dsimp only at hk hol hb
  simp only[go_sem]
  refine cndC.mk (fun h=>?_) (fun h=>?_)
  ·have hk':k<w.tasks.length:=by simpa using h
   rw[aC hk'] at hb
   have hr:=f7.2 _ (aj hk')
   have hol2:out.length+1≤2147483648:=by omega
   simp only[go_sem,AA _ hk']
   refine DrawK.mkE ?_
   simp only[go_sem]
   refine CZ (ZZ w.tasks[k] hr) ?_
   simp only[go_sem,bK,Oo,hol2,nrT,az,aS,wrap_i64 (n:=(k:Int)+1) (by omega) (by omega)]
   refine⟨(k+1,out ++ [w.tasks[k]]),Head.selAbs [(0,false),(1,true),(2,true),(3,false),(4,false),(5,true),(6,false),(7,false),(8,false),(17,true),(11,false),(12,true),(13,false),(14,false),(15,true)] 10 9 ⟨rfl,rfl,rfl,rfl,rfl,Bf _,AO DRef.pure,Du (CE _),Bf _,AO DDead.pure,Bf _,Iy DTask.o_nr _ out rfl,AO DVal.pure,Du (BL _),Bf _,AO DRef.pure,Du (A8 _),trivial⟩ ⟨out.length,out.map DTask.o ++ [DTask.o w.tasks[k]],_,DTask.o w.tasks[k],_,⟨lU 9,rfl,Iw DTask.o_nr _ out _ _,by simp,rfl⟩,
    (by rw[DTask.o_eq,DQuery.o_eq,DPred.o_eq]; exact⟨rfl,rfl,rfl,rfl,rfl,rfl,rfl,rfl,rfl,rfl,CX _,by simp[En],rfl,rfl,rfl,rfl,rfl,rfl,rfl,rfl,rfl,rfl,rfl,rfl,rfl,rfl,rfl,rfl,rfl,rfl,DR (BL _),rfl,BL _,by simp[En],rfl,rfl,rfl,rfl,rfl,rfl,Aq _,by simp[En],rfl,rfl,rfl,rfl,rfl,rfl,rfl,rfl,Et _,by simp[En],rfl,rfl,rfl,rfl,rfl,rfl,rfl,rfl,rfl,rfl,rfl,rfl,rfl,rfl,DR (A8 _),rfl,A8 _,by simp[En],fun l hl=>by simp[En] at hl; omega⟩),⟨rfl, ?tr⟩, ?eq⟩,⟨hk',by simp; omega,(bJ _ _ _).trans hb⟩,by simp only; omega⟩
   case tr =>
    unfold Az
    rw[Bc]
    show ([_,_,_,_,_,⟨112,5,(w.b.map DBuf.o).map (fun x=>x.map (Ql [(0,false),(1,true),(2,true),(3,false),(4,false),(5,true),(6,false),(7,false),(8,false),(17,true),(11,false),(12,true),(13,false),(14,false),(15,true)])),true,true⟩,_,_,_,_]:List Ob).all (Aw 10)=true
    rw[DR (CE w.b)]
    exact AA0 rfl rfl rfl (AP (Aq _)) (AP (Et _)) (AP (CE _)) (AP (Aq _)) (AP (G6 _)) (AP (Aq _)) (AP (GH _))
   case eq =>
    unfold Az
    rw[Bc,Uz]
    show (⟨78,_,[_,_,_,_,_,⟨112,5,(w.b.map DBuf.o).map (fun x=>x.map (Ql [(0,false),(1,true),(2,true),(3,false),(4,false),(5,true),(6,false),(7,false),(8,false),(17,true),(11,false),(12,true),(13,false),(14,false),(15,true)])),true,true⟩,_,_,_,_]⟩:MS)=_; rw[DR (CE w.b)]; rfl
  ·have hk':k=w.tasks.length:=by simp at h; omega
   subst hk'
   rw[aO] at hb
   have:out=w.tasks:=by simpa using hb
   rw[this]
   simp only[go_sem]
   refine LoopH.mk [] (A:=Nat×List DDeed) (fun x=>[(65,.c (.v (.int .i64 (x.1))))]) (fun x=>[⟨45,14,[w.c],true,true⟩,⟨45,14,[wW],true,true⟩,⟨45,14,[wRow w (.ref 9) (.ref 10)],true,true⟩,⟨3,1,w.c0.cols.map intC,true,true⟩,⟨165,5,w.d.l.map DRef.c,true,true⟩,⟨112,5,w.b.map DBuf.o,true,true⟩,⟨3,1,w.m.map intC,true,true⟩,⟨115,3,w.x.map DDead.c,true,true⟩,⟨3,1,w.p.map intC,true,true⟩,⟨127,25,w.tasks.map DTask.o,true,true⟩,⟨132,25,x.2.map DDeed.o,true,true⟩]) (fun x=>x.1≤w.deeds.length∧x.2.length≤x.1∧x.2++w.deeds.drop x.1=w.deeds) (fun x=>w.deeds.length-x.1) (0,[]) (Head.trans (Head.nilR 2 13 132 25 ⟨45,14,[wRow w (.ref 9) (.v (.slice none 0 0))],true,true⟩ (wRow w (.ref 9) (.v (.slice none 0 0))) rfl rfl rfl) (Head.sel [(0,false),(1,true),(2,true),(3,false),(4,false),(5,true),(6,false),(7,false),(8,false),(9,true),(10,false)] ⟨rfl,rfl,rfl,rfl,rfl,Bf _,AO DRef.pure,Du (CE _),Bf _,AO DDead.pure,Bf _,Du (GH _),rfl,trivial⟩ (by show (⟨78,_,[_,_,_,_,_,⟨112,5,(w.b.map DBuf.o).map (fun x=>x.map (Ql [(0,false),(1,true),(2,true),(3,false),(4,false),(5,true),(6,false),(7,false),(8,false),(9,true),(10,false)])),true,true⟩,_,_,_,⟨127,25,(w.tasks.map DTask.o).map (fun x=>x.map (Ql [(0,false),(1,true),(2,true),(3,false),(4,false),(5,true),(6,false),(7,false),(8,false),(9,true),(10,false)])),true,true⟩,_]⟩:MS)=_; rw[DR (CE w.b),DR (GH w.tasks)]; rfl))) ⟨ak _,aK _,rfl⟩ ?_
   clear hb hol hk h this out
   rintro⟨k,out⟩ ⟨hk,hol,hb⟩
   dsimp only at hk hol hb
   simp only[go_sem]
   refine cndC.mk (fun h=>?_) (fun h=>?_)
   ·have hk':k<w.deeds.length:=by simpa using h
    rw[aC hk'] at hb
    have hr:=f8.2 _ (aj hk')
    have hol2:out.length+1≤2147483648:=by omega
    simp only[go_sem,AA _ hk']
    refine DrawK.mkE ?_
    simp only[go_sem]
    refine CZ (Za w.deeds[k] hr) ?_
    simp only[go_sem,bK,Oo,hol2,nrD,az,aS,wrap_i64 (n:=(k:Int)+1) (by omega) (by omega)]
    refine⟨(k+1,out ++ [w.deeds[k]]),Head.selAbs [(0,false),(1,true),(2,true),(3,false),(4,false),(5,true),(6,false),(7,false),(8,false),(9,true),(17,true),(12,false),(13,true),(14,false),(15,true)] 11 10 ⟨rfl,rfl,rfl,rfl,rfl,Bf _,AO DRef.pure,Du (CE _),Bf _,AO DDead.pure,Bf _,Du (GH _),Iy DDeed.o_nr _ out rfl,AO DVal.pure,Du (BL _),Bf _,Du (A8 _),trivial⟩ ⟨out.length,out.map DDeed.o ++ [DDeed.o w.deeds[k]],_,DDeed.o w.deeds[k],_,⟨lU 10,rfl,Iw DDeed.o_nr _ out _ _,by simp,rfl⟩,
     (by rw[DDeed.o_eq,DQuery.o_eq,DResult.o_eq,DPred.o_eq]; exact⟨rfl,rfl,rfl,rfl,rfl,rfl,rfl,rfl,CX _,by simp[En],rfl,rfl,rfl,rfl,rfl,rfl,rfl,rfl,rfl,rfl,rfl,rfl,rfl,rfl,rfl,rfl,rfl,rfl,DR (BL _),rfl,BL _,by simp[En],rfl,rfl,rfl,rfl,rfl,rfl,Aq _,by simp[En],rfl,rfl,DR (A8 _),rfl,A8 _,by simp[En],rfl,rfl,rfl,rfl,rfl,rfl,rfl,rfl,rfl,rfl,rfl,rfl,rfl,rfl,rfl,rfl,rfl,rfl,rfl,rfl,fun l hl=>by simp[En] at hl; omega⟩),⟨rfl, ?tr⟩, ?eq⟩,⟨hk',by simp; omega,(bJ _ _ _).trans hb⟩,by simp only; omega⟩
    case tr =>
     unfold Az
     rw[Bc]
     show ([_,_,_,_,_,⟨112,5,(w.b.map DBuf.o).map (fun x=>x.map (Ql [(0,false),(1,true),(2,true),(3,false),(4,false),(5,true),(6,false),(7,false),(8,false),(9,true),(17,true),(12,false),(13,true),(14,false),(15,true)])),true,true⟩,_,_,_,⟨127,25,(w.tasks.map DTask.o).map (fun x=>x.map (Ql [(0,false),(1,true),(2,true),(3,false),(4,false),(5,true),(6,false),(7,false),(8,false),(9,true),(17,true),(12,false),(13,true),(14,false),(15,true)])),true,true⟩,_]:List Ob).all (Aw 11)=true
     rw[DR (CE w.b),DR (GH w.tasks)]
     exact AGF (AA0 rfl rfl rfl (AP (Aq _)) (AP (Et _)) (AP (CE _)) (AP (Aq _)) (AP (G6 _)) (AP (Aq _)) (AP (GH _))) (AP (Jb _))
    case eq =>
     unfold Az
     rw[Bc,Uz]
     show (⟨78,_,[_,_,_,_,_,⟨112,5,(w.b.map DBuf.o).map (fun x=>x.map (Ql [(0,false),(1,true),(2,true),(3,false),(4,false),(5,true),(6,false),(7,false),(8,false),(9,true),(17,true),(12,false),(13,true),(14,false),(15,true)])),true,true⟩,_,_,_,⟨127,25,(w.tasks.map DTask.o).map (fun x=>x.map (Ql [(0,false),(1,true),(2,true),(3,false),(4,false),(5,true),(6,false),(7,false),(8,false),(9,true),(17,true),(12,false),(13,true),(14,false),(15,true)])),true,true⟩,_]⟩:MS)=_; rw[DR (CE w.b),DR (GH w.tasks)]; rfl
   ·have hk':k=w.deeds.length:=by simp at h; omega
    subst hk'
    rw[aO] at hb
    have:out=w.deeds:=by simpa using hb
    rw[this]
    simp only[go_sem,Jb,GH,CE,Aq,Et,G6]
    try simp[AY]
def gone (g:Int):DBuf:=⟨g,0,⟨0,[]⟩,[]⟩
def Jn (l:List DBuf) (i:Int):List DBuf:=if h:0≤i∧i.toNat<l.length then(if(l[i.toNat]'h.2).kind != 0 then l.set i.toNat (gone (IntKind.i64.wrap ((l[i.toNat]'h.2).gen+1))) else l) else l
theorem Uw {l:List DBuf} {i:Int} (h:¬ (0≤i∧i<l.length)):Jn l i=l:=by unfold Jn; rw[dif_neg (by omega)]
theorem TC {l:List DBuf} {m:Nat} (h:m<l.length):Jn l (m:Int)=if l[m].kind != 0 then l.set m (gone (IntKind.i64.wrap (l[m].gen+1))) else l:=by
 unfold Jn
 rw[dif_pos ⟨by omega,by simpa using h⟩]
 rfl
theorem Head.same (s:MS):Head s s:=⟨rfl,fun _ _ _ _ _ _ h=>⟨_,_,h⟩⟩
theorem tq (l:List DBuf) (i:Int) (hl:fitS F6 l):Ctr prog 105 [.c (.sl (l.map DBuf.c)),.c (.v (.int .i64 (i)))] [.own 112 5 ((Jn l i).map DBuf.o) true]:=by
 refine Ctr.mkH call105 func105 rfl mixed ntmps105 results105 (by kernel_rfl) rfl fun hw=>?_
 simp only[go_sem]
 refine CallK.mk _ (P7 l hl) fun _=>?_
 simp only[go_sem]
 rcases h1:decide (i≥0) with _ | _
 ·have hw:=Uw (l:=l) (i:=i) (fun h=>by simp at h1; omega)
  simp only[go_sem,hw]
  refine EndH.mk (Head.same _) ?_
  simp only[go_sem,CE]
  try simp
 rcases h2:decide (i<(l.length:Int)) with _ | _
 ·have hw:=Uw (l:=l) (i:=i) (fun h=>by simp at h2; omega)
  simp only[go_sem,ae,h2,hw]
  refine EndH.mk (Head.same _) ?_
  simp only[go_sem,CE]
  try simp
 obtain⟨m,rfl⟩:∃ m:Nat,i=m:=⟨i.toNat,by simp at h1; omega⟩
 have hm:m<l.length:=by simpa using h2
 rcases h3:(l[m].kind != 0) with _ | _
 ·have hw:Jn l (m:Int)=l:=by rw[TC hm,h3]; rfl
  simp only[go_sem,ae,h2,h3,AA _ hm,hw]
  refine EndH.mk (Head.same _) ?_
  simp only[go_sem,CE]
  try simp
 have hw:Jn l (m:Int)=l.set m (gone (IntKind.i64.wrap (l[m].gen+1))):=by rw[TC hm,h3]; rfl
 simp only[go_sem,ae,h2,h3,AA _ hm,hm,hw]
 refine EndH.mk (t:=⟨35,[(4,.c (.ref 0))],[⟨112,5,(l.set m (gone (IntKind.i64.wrap (l[m].gen+1)))).map DBuf.o,true,true⟩]⟩) ?h ?post
 case h =>
  refine Head.abs 1 0 [4] ⟨m,l.map DBuf.o,_,DBuf.o (gone (IntKind.i64.wrap (l[m].gen+1))),_,⟨lU 0,rfl,rfl,by simpa using hm,rfl⟩,
  by simp[gone,DBuf.o_eq,DChunk.o_eq,BX,AY],⟨rfl, ?tr⟩, ?eq⟩
  case tr=>unfold Az; rw[← abm]; exact allA (AP (CE _))
  case eq=>unfold Az; rw[← abm]; rfl
 case post =>
  simp only[go_sem,CE]
  try simp
theorem tu (l:List DBuf) (i:Int) (hl:fitS F6 l):Ctr prog 84 [.c (.sl (l.map DBuf.c)),.c (.v (.int .i64 (i)))] [.own 112 5 ((Jn l i).map DBuf.o) true]:=by
 refine Ctr.mkH call84 func84 rfl mixed ntmps84 results84 (by kernel_rfl) rfl fun hw=>?_
 have hlen:=hl.1
 simp only[go_sem]
 refine CallK.mk _ (WZ l hl) fun _=>?_
 simp only[go_sem,ae,wrap_i64 (n:=(l.length:Int)-1) (by omega) (by omega)]
 refine CallK.mk _ (AL i 0 _) fun _=>?_
 rcases h1:Ac i 0 ((l.length:Int)-1) with _ | _
 ·have hw:=Uw (l:=l) (i:=i) (fun h=>by simp[Ac] at h1; omega)
  simp only[go_sem,hw]
  refine EndH.mk (Head.same _) ?_
  simp only[go_sem,CE]
  try simp
 have h1':0≤i∧i≤(l.length:Int)-1:=by simpa [Ac] using h1
 obtain⟨m,rfl⟩:∃ m:Nat,i=m:=⟨i.toNat,by omega⟩
 have hm:m<l.length:=by omega
 rcases h3:(l[m].kind != 0) with _ | _
 ·have hw:Jn l (m:Int)=l:=by rw[TC hm,h3]; rfl
  simp only[go_sem,h3,AA _ hm,hw]
  refine EndH.mk (Head.same _) ?_
  simp only[go_sem,CE]
  try simp
 have hw:Jn l (m:Int)=l.set m (gone (IntKind.i64.wrap (l[m].gen+1))):=by rw[TC hm,h3]; rfl
 simp only[go_sem,ae,h3,AA _ hm,hm,hw]
 refine EndH.mk (t:=⟨32,[(4,.c (.ref 0))],[⟨112,5,(l.set m (gone (IntKind.i64.wrap (l[m].gen+1)))).map DBuf.o,true,true⟩]⟩) ?h ?post
 case h =>
  refine Head.abs 1 0 [4] ⟨m,l.map DBuf.o,_,DBuf.o (gone (IntKind.i64.wrap (l[m].gen+1))),_,⟨lU 0,rfl,rfl,by simpa using hm,rfl⟩,
  by simp[gone,DBuf.o_eq,DChunk.o_eq,BX,AY],⟨rfl, ?tr⟩, ?eq⟩
  case tr=>unfold Az; rw[← abm]; exact allA (AP (CE _))
  case eq=>unfold Az; rw[← abm]; rfl
 case post =>
  simp only[go_sem,CE]
  try simp
def ny (d:DDead) (e:Int):Bool:=decide (e≥2)&&decide (d.at0≤IntKind.i64.wrap (e-2))
theorem Vw (d:DDead) (e:Int):Ctr prog 160 [.agg d.c,.c (.v (.int .i64 (e)))] [.val (.c (.v (.bool (ny d e))))]:=by
 refine CM call160 func160 ntmps160 results160 fun hw=>?_
 rcases h1:decide (e≥2) with _ | _<;>simp only[go_sem,h1]<;>simp only[ny,h1,ag,ai]
theorem Vx (d:DDead) (e:Int):Ctr prog 184 [.agg d.c,.c (.v (.int .i64 (e)))] [.val (.c (.v (.bool (ny d e))))]:=by
 refine CM call184 func184 ntmps184 results184 fun hw=>?_
 rcases h1:decide (e≥2) with _ | _<;>simp only[go_sem,h1]<;>simp only[ny,h1,ag,ai]
def Oc (e:Int):Nat→List DDead→Int
 | _,[]=>-1
 | k,x::l=>if ny x e=true then(k:Int) else Oc e (k+1) l
def IU (l:List DDead) (e:Int):Int:=Oc e 0 l
theorem X5 (e:Int) (l:List DDead) {k:Nat} (h:k<l.length):Oc e k (l.drop k)=if ny l[k] e=true then(k:Int) else Oc e (k+1) (l.drop (k+1)):=by
 rw[aC h,Oc]
theorem Vy (e:Int):∀ (l:List DDead) (k:Nat),Oc e k l = -1∨∃ j:Nat,k≤j∧j<k+l.length∧Oc e k l=(j:Int)
 | [],k=>.inl rfl
 | x::l,k=>by
  unfold Oc
  split
  ·exact .inr ⟨k,aK _,by simp,rfl⟩
  ·rcases Vy e l (k+1) with h | ⟨j,h1,h2,h3⟩
   ·exact .inl h
   ·exact .inr ⟨j,by omega,by simp; omega,h3⟩
theorem TD (l:List DDead) (e:Int):IU l e = -1∨∃ j:Nat,j<l.length∧IU l e=(j:Int):=by
 rcases Vy e l 0 with h | ⟨j,h1,h2,h3⟩
 ·exact .inl h
 ·exact .inr ⟨j,by omega,h3⟩
theorem X6 (l:List DDead) (e:Int) (hl:l.length≤1048576):Ctr prog 104 [.c (.sl (l.map DDead.c)),.c (.v (.int .i64 (e)))] [.val (.c (.v (.int .i64 (IU l e))))]:=by
 refine CM call104 func104 ntmps104 results104 fun hw=>?_
 simp only[go_sem,ae]
 refine LoopU.mk 0 (A:=Nat) (fun x=>[(9,.c (.v (.int .i64 (x))))]) (fun _=>[]) (fun k=>k≤l.length∧IU l e=Oc e k (l.drop k)) (fun x=>l.length-x) 0 ⟨⟨rfl,rfl⟩,rfl,ak _,rfl⟩ ?_
 rintro k ⟨hk,hb⟩
 simp only[go_sem]
 refine cndC.mk (fun h=>?_) (fun h=>?_)
 ·have hk':k<l.length:=by simpa using h
  rw[X5 e l hk'] at hb
  try refine DrawK.mk ?_
  try simp only[go_sem,AA _ hk']
  first | refine CY (Vx l[k] e) ?_ | refine CW (Vx l[k] e) fun _=>?_
  rcases hc:ny l[k] e with _ | _
  ·rw[hc] at hb
   simp only[go_sem,wrap_i64 (n:=(k:Int)+1) (by omega) (by omega)]
   exact⟨k+1,⟨rfl,rfl⟩,rfl,⟨hk',hb⟩,by omega⟩
  ·rw[hc] at hb
   rw[hb]
   simp only[go_sem]
   try simp
 ·have hk':k=l.length:=by simp at h; omega
  subst hk'
  rw[aO] at hb
  rw[hb]
  simp only[go_sem,Oc]
  try rfl
theorem X7 (l:List DDead) (e:Int) (hl:l.length≤1048576):Ctr prog 83 [.c (.sl (l.map DDead.c)),.c (.v (.int .i64 (e)))] [.val (.c (.v (.int .i64 (IU l e))))]:=by
 refine CM call83 func83 ntmps83 results83 fun hw=>?_
 simp only[go_sem]
 refine LoopU.mk 0 (A:=Nat) (fun x=>[(5,.c (.v (.int .i64 (x))))]) (fun _=>[]) (fun k=>k≤l.length∧IU l e=Oc e k (l.drop k)) (fun x=>l.length-x) 0 ⟨⟨rfl,rfl⟩,rfl,ak _,rfl⟩ ?_
 rintro k ⟨hk,hb⟩
 simp only[go_sem,ae]
 refine cndC.mk (fun h=>?_) (fun h=>?_)
 ·have hk':k<l.length:=by simpa using h
  rw[X5 e l hk'] at hb
  try refine DrawK.mk ?_
  try simp only[go_sem,AA _ hk']
  first | refine CY (Vw l[k] e) ?_ | refine CW (Vw l[k] e) fun _=>?_
  rcases hc:ny l[k] e with _ | _
  ·rw[hc] at hb
   simp only[go_sem,wrap_i64 (n:=(k:Int)+1) (by omega) (by omega)]
   exact⟨k+1,⟨rfl,rfl⟩,rfl,⟨hk',hb⟩,by omega⟩
  ·rw[hc] at hb
   rw[hb]
   simp only[go_sem]
   try simp
 ·have hk':k=l.length:=by simp at h; omega
  subst hk'
  rw[aO] at hb
  rw[hb]
  simp only[go_sem,Oc]
  try rfl
def O8 (e n:Int):Bool:=!(n != -1) || !(n != e)
def Nr (l:List Int) (e:Int):Bool:=l.all (O8 e)
theorem TE (l:List Int) (e:Int) (hl:l.length≤1048576):Ctr prog 107 [.c (.sl (l.map intC)),.c (.v (.int .i64 (e)))] [.val (.c (.v (.bool (Nr l e))))]:=by
 refine CM call107 func107 ntmps107 results107 fun hw=>?_
 simp only[go_sem]
 refine LoopU.mk 0 (A:=Nat) (fun x=>[(9,.c (.v (.int .i64 (x))))]) (fun _=>[]) (Eh l (O8 e)) (fun x=>l.length-x) 0 ⟨⟨rfl,rfl⟩,rfl,DJ⟩ ?_
 intro k hk
 simp only[go_sem]
 refine cndC.mk (fun h=>?_) (fun h=>?_)
 ·have hk':k<l.length:=by simpa using h
  rcases h1:l[k] != -1 with _ | _
  ·simp only[go_sem,AA _ hk',h1,wrap_i64 (n:=(k:Int)+1) (by omega) (by omega)]
   exact⟨k+1,⟨rfl,rfl⟩,rfl,BI hk' hk (by simp[O8,h1]),by omega⟩
  rcases h2:l[k] != e with _ | _
  ·simp only[go_sem,AA _ hk',h1,h2,wrap_i64 (n:=(k:Int)+1) (by omega) (by omega)]
   exact⟨k+1,⟨rfl,rfl⟩,rfl,BI hk' hk (by simp[O8,h1,h2]),by omega⟩
  ·simp only[go_sem,AA _ hk',h1,h2,Nr,A_ (p:=O8 e) hk' (by simp[O8,h1,h2])]
 ·have hk':k=l.length:=by have:=hk.1; simp at h; omega
  subst hk'
  simp only[go_sem,Nr,Bo hk]
theorem TF (l:List Int) (e:Int) (hl:l.length≤1048576):Ctr prog 86 [.c (.sl (l.map intC)),.c (.v (.int .i64 (e)))] [.val (.c (.v (.bool (Nr l e))))]:=by
 refine CM call86 func86 ntmps86 results86 fun hw=>?_
 simp only[go_sem]
 refine LoopU.mk 0 (A:=Nat) (fun x=>[(5,.c (.v (.int .i64 (x))))]) (fun _=>[]) (Eh l (O8 e)) (fun x=>l.length-x) 0 ⟨⟨rfl,rfl⟩,rfl,DJ⟩ ?_
 intro k hk
 simp only[go_sem]
 refine cndC.mk (fun h=>?_) (fun h=>?_)
 ·have hk':k<l.length:=by simpa using h
  rcases h1:l[k] != -1 with _ | _
  ·simp only[go_sem,AA _ hk',h1,wrap_i64 (n:=(k:Int)+1) (by omega) (by omega)]
   exact⟨k+1,⟨rfl,rfl⟩,rfl,BI hk' hk (by simp[O8,h1]),by omega⟩
  rcases h2:l[k] != e with _ | _
  ·simp only[go_sem,AA _ hk',h1,h2,wrap_i64 (n:=(k:Int)+1) (by omega) (by omega)]
   exact⟨k+1,⟨rfl,rfl⟩,rfl,BI hk' hk (by simp[O8,h1,h2]),by omega⟩
  ·simp only[go_sem,AA _ hk',h1,h2,Nr,A_ (p:=O8 e) hk' (by simp[O8,h1,h2])]
 ·have hk':k=l.length:=by have:=hk.1; simp at h; omega
  subst hk'
  simp only[go_sem,Nr,Bo hk]
def ik (w:DWorld):Bool:=w.time==1000000||(w.t==1000000||(w.e==1000000||w.d.ver==1000000))
theorem nz (w:DWorld):Ctr prog 103 [.agg w.c] [.val (.c (.v (.bool (ik w))))]:=by
 refine CM call103 func103 ntmps103 results103 fun hw=>?_
 rcases h1:w.time==1000000 with _ | _<;>rcases h2:w.t==1000000 with _ | _<;>rcases h3:w.e==1000000 with _ | _ <;>
  simp only[go_sem,h1,h2,h3,ik,Om,bT]
def n_ (w:DWorld):Bool:=decide (w.time<1000000)&&(decide (w.t<1000000)&&(decide (w.e<1000000)&&decide (w.d.ver<1000000)))
theorem y8 (w:DWorld):PCtr prog 82 45 w.c [] w.c [.c (.v (.bool (n_ w)))]:=by
 refine PCtr.mk call82 func82 rfl mixed ntmps82 results82 (by kernel_rfl) rfl rfl fun b hw0 hw=>?_
 rcases h1:decide (w.time<1000000) with _ | _<;>rcases h2:decide (w.t<1000000) with _ | _<;>rcases h3:decide (w.e<1000000) with _ | _ <;>
  simp only[go_sem,h1,h2,h3,n_,ai,ag] <;>
  exact⟨0,_,_,_,_,_,rfl,rfl,rfl,rfl,rfl,rfl,rfl,rfl,rfl⟩
def iq (l:List DDead) (i:Int):Int:=match l[i.toNat]? with
 | some d=>d.buf
 | none=>0
def Gw (w:DWorld):DWorld:=
 if decide (IU w.x w.e≥0)=true then⟨w.c0,IntKind.i64.wrap (w.time+1),w.t,w.e,w.d,Jn w.b (iq w.x (IU w.x w.e)),w.m,EH w.x (IU w.x w.e),w.p,w.tasks,w.deeds⟩
 else⟨w.c0,IntKind.i64.wrap (w.time+1),w.t,IntKind.i64.wrap (w.e+1),w.d,w.b,w.m,w.x,w.p,w.tasks,w.deeds⟩
def Ci (w:DWorld):Bool:=n_ w&&(decide (IU w.x w.e≥0)||(decide (w.x.length>0)&&Nr w.p w.e))
def D7 (w:DWorld):DWorld:=if Ci w=true then Gw w else w
theorem iw (w:DWorld) (hf:AU w):PCtr prog 37 45 w.c [] (D7 w).c [.c (.v (.bool (Ci w)))]:=by
 rw[BH,F8,Ht] at hf
 obtain⟨f1,f2,f3,f4,f5,f6,f7,f8⟩:=hf
 refine PCtr.mk call37 func37 rfl mixed ntmps37 results37 (by kernel_rfl) rfl rfl fun b hw0 hw=>?_
 simp only[go_sem]
 refine PtrK.mk (cl':=w.c) (rs:=[.c (.v (.bool (n_ w)))]) ?h rfl rfl rfl rfl rfl rfl rfl ?_
 case h=>simpa only[go_sem] using y8 w
 rcases h1:n_ w with _ | _
 ·have e1:Ci w=false:=by simp[Ci,h1]
  have e2:D7 w=w:=by simp[D7,e1]
  simp only[go_sem,e1,e2]
  exact⟨0,_,_,_,_,_,rfl,rfl,rfl,rfl,rfl,rfl,rfl,rfl,rfl⟩
 simp only[go_sem]
 try refine DrawK.mk ?_
 try simp only[go_sem]
 first | refine CallF.mk _ (X7 w.x w.e f5) ?_ | refine CallK.mk _ (X7 w.x w.e f5) fun _=>?_
 rcases h2:decide (IU w.x w.e≥0) with _ | _
 rotate_left
 ·obtain⟨m,hm,he⟩:∃ m:Nat,m<w.x.length∧IU w.x w.e=(m:Int):=by
   rcases TD w.x w.e with h | ⟨j,h3,h4⟩
   ·rw[h] at h2; simp at h2
   ·exact⟨j,h3,h4⟩
  have e1:Ci w=true:=by simp only[Ci,h1,h2]; rfl
  have e2:D7 w=Gw w:=by simp only[D7,e1,aW]
  have e3:decide ((m:Int)≥0)=true:=by simp
  have e4:(Gw w)=⟨w.c0,IntKind.i64.wrap (w.time+1),w.t,w.e,w.d,Jn w.b w.x[m].buf,w.m,EH w.x (m:Int),w.p,w.tasks,w.deeds⟩:=by
   unfold Gw iq
   rw[h2,he]
   simp[hm]
  simp only[go_sem,he,e1,e2,e3,e4]
  refine DrawK.mkE ?_
  simp only[go_sem,AA _ hm]
  refine CallE.mk _ ((tu w.b w.x[m].buf f3).valO (KN _)) ?_
  simp only[go_sem,AA _ hm]
  refine CallK.mk _ ((dI w.x (m:Int) f5).val (AO DDead.pure)) fun _=>?_
  simp only[go_sem]
  exact⟨0,_,_,_,_,_,rfl,rfl,rfl,rfl,rfl,rfl,rfl,rfl,rfl⟩
 ·have e0:decide (IU w.x w.e≥0)=false:=h2
  rcases h3:decide ((w.x.length:Int)>0) with _ | _
  ·have e1:Ci w=false:=by
    simp only[Ci,h1,h2]
    have:w.x.length=0:=by simp at h3; simp[h3]
    simp[this]
   have e2:D7 w=w:=by simp[D7,e1]
   simp only[go_sem,h2,e1,e2]
   try refine DrawK.mk ?_
   try simp only[go_sem,ae,h3]
   exact⟨0,_,_,_,_,_,rfl,rfl,rfl,rfl,rfl,rfl,rfl,rfl,rfl⟩
  have h3':decide (w.x.length>0)=true:=by simpa using h3
  simp only[go_sem,h2]
  try refine DrawK.mk ?_
  try simp only[go_sem,ae,h3]
  first | refine CallF.mk _ (TF w.p w.e f6) ?_ | refine CallK.mk _ (TF w.p w.e f6) fun _=>?_
  rcases h4:Nr w.p w.e with _ | _
  ·have e1:Ci w=false:=by simp only[Ci,h1,h2,h3',h4]; rfl
   have e2:D7 w=w:=by simp[D7,e1]
   simp only[go_sem,e1,e2]
   exact⟨0,_,_,_,_,_,rfl,rfl,rfl,rfl,rfl,rfl,rfl,rfl,rfl⟩
  ·have e1:Ci w=true:=by simp only[Ci,h1,h2,h3',h4]; rfl
   have e2:D7 w=Gw w:=by simp only[D7,e1,aW]
   have e4:(Gw w)=⟨w.c0,IntKind.i64.wrap (w.time+1),w.t,IntKind.i64.wrap (w.e+1),w.d,w.b,w.m,w.x,w.p,w.tasks,w.deeds⟩:=by
    unfold Gw
    rw[h2]
    simp
   simp only[go_sem,e1,e2,e4]
   exact⟨0,_,_,_,_,_,rfl,rfl,rfl,rfl,rfl,rfl,rfl,rfl,rfl⟩
end Go.Proofs.YtnchiiikacemmaaGreat
