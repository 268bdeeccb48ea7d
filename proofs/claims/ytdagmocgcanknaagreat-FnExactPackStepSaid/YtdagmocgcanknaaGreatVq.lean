/- A part. -/
import Derived.Test.YtdagmocgcanknaaGreatVp
set_option linter.unusedSimpArgs false
set_option linter.unusedVariables false
set_option maxHeartbeats 4000000
set_option maxRecDepth 10000
open Go.Proofs.Tryz
namespace Go.Proofs.YtdagmocgcanknaaGreat
open Go.Vm
def gone (g:Int):DBuf:=⟨g,0,⟨0,[]⟩,[]⟩
def Pi (l:List DBuf) (i:Int):List DBuf:=if h:0<=i/\i.toNat<l.length then(if(l[i.toNat]'h.2).kind != 0 then l.set i.toNat (gone (IntKind.i64.wrap ((l[i.toNat]'h.2).gen+1))) else l) else l
theorem Xq {l:List DBuf} {i:Int} (h:¬ (0<=i/\i<l.length)):Pi l i=l:=by unfold Pi; rw[dif_neg AOl]
theorem V_ {l:List DBuf} {m:Nat} (h:m<l.length):Pi l (m:Int)=if l[m].kind != 0 then l.set m (gone (IntKind.i64.wrap (l[m].gen+1))) else l:=by unfold Pi;rw[dif_pos ⟨AOl,APO⟩];rfl
theorem Head.same (s:MS):Head s s:=⟨rfl,fun _ _ _ _ _ _ h=>⟨_,_,h⟩⟩
theorem FP (l:List DBuf) (i:Int) (hl:fitS Ef l):Ctr prog 299 [.c (.sl (l.map DBuf.c)),.c (.v (.int .i64 (i)))] [.own 145 5 ((Pi l i).map DBuf.o) true]:=by
 refine ACf call299 func299 rfl mixed ntmps299 results299 (by kernel_rfl) rfl fun hw=>?_;simp only[go_sem];refine AAO _ (OI l hl) fun _=>?_;simp only[go_sem,aa];rcases h1:decide (i>=0) with _ | _
 .have hw:=Xq (l:=l) (i:=i) (fun h=>APt);simp only[go_sem,aa,h1,hw,A7];exact ALi
 rcases h2:decide (i<(l.length:Int)) with _ | _
 .have hw:=Xq (l:=l) (i:=i) (fun h=>AO3);simp only[go_sem,aa,h1,h2,hw,A7];exact ALi
 obtain⟨m,rfl⟩:∃ m:Nat,i=m:=⟨i.toNat,APt⟩;have hm:m<l.length:=APc;rcases h3:(l[m].kind != 0) with _ | _
 .have hw:Pi l (m:Int)=l:=by rw[V_ hm,h3]; rfl
  simp only[go_sem,aa,h1,h2,h3,AA _ hm,hm,hw];exact ALi
 have hw:Pi l (m:Int)=l.set m (gone (IntKind.i64.wrap (l[m].gen+1))):=by rw[V_ hm,h3]; rfl
 simp only[go_sem,aa,h1,h2,h3,AA _ hm,hm,hw];refine ACk (t:=⟨35,[(4,.c (.ref 0))],[⟨145,5,(l.set m (gone (IntKind.i64.wrap (l[m].gen+1)))).map DBuf.o,true,true⟩]⟩) ?h ?post
 case h =>
  exact ALE
 case post =>
  exact ALx
theorem Ny (l:List DBuf) (i:Int) (hl:fitS Ef l):Ctr prog 283 [.c (.sl (l.map DBuf.c)),.c (.v (.int .i64 (i)))] [.own 145 5 ((Pi l i).map DBuf.o) true]:=by
 refine ACf call283 func283 rfl mixed ntmps283 results283 (by kernel_rfl) rfl fun hw=>?_;have hlen:=hl.1;simp only[go_sem];refine AAO _ (Su l hl) fun _=>?_;simp only[go_sem,aa,wrap_i64 (n:=(l.length:Int)-1) AOl AOl];refine AAO _ (AP i 0 _) fun _=>?_;rcases h1:Ae i 0 ((l.length:Int)-1) with _ | _
 .have hw:=Xq (l:=l) (i:=i) (fun h=>APU);simp only[go_sem,aa,h1,hw,A7];exact ALi
 have h1':0<=i/\i<=(l.length:Int)-1:=by simpa [Ae] using h1
 obtain⟨m,rfl⟩:∃ m:Nat,i=m:=⟨i.toNat,AOl⟩;have hm:m<l.length:=AOl;rcases h3:(l[m].kind != 0) with _ | _
 .have hw:Pi l (m:Int)=l:=by rw[V_ hm,h3]; rfl
  simp only[go_sem,aa,h1,h3,AA _ hm,hm,hw];exact ALi
 have hw:Pi l (m:Int)=l.set m (gone (IntKind.i64.wrap (l[m].gen+1))):=by rw[V_ hm,h3]; rfl
 simp only[go_sem,aa,h1,h3,AA _ hm,hm,hw];refine ACk (t:=⟨32,[(4,.c (.ref 0))],[⟨145,5,(l.set m (gone (IntKind.i64.wrap (l[m].gen+1)))).map DBuf.o,true,true⟩]⟩) ?h ?post
 case h =>
  exact ALE
 case post =>
  exact ALx

def QV (b:DBuf):Bool:=b.kind==0
def Gt (l:List DBuf):Int:=R_ QV l
theorem AJr {l:List DBuf}:([⟨145,5,l.map DBuf.o,true,true⟩]:List Ob).all (Aq 1)=true:=allA (AX (A7 _))
def tkS (l:List DBuf) (k:Nat):List Ob:=match l[k]? with
 | some b=>[⟨145,5,(l.map DBuf.o).set k [.v (.int .i64 b.gen),.v (.int .i64 b.kind),.v (.int .i64 b.c0.next),.ref 1,.ref 2],true,true⟩,⟨189,2,b.c0.l.map DSlot.o,true,true⟩,⟨5,1,b.g.map byteC,true,true⟩]
 | none=>[⟨145,5,l.map DBuf.o,true,true⟩]
theorem AAq (n:Nat) (env:List (Nat×AV)) (l:List DBuf) (k:Nat):Head ⟨n,env,[⟨145,5,l.map DBuf.o,true,true⟩]⟩ ⟨n,env,tkS l k⟩:=by
 unfold tkS;cases h:l[k]? with
 | none=>exact Head.same _
 | some b =>
  have h2:=Head.openR 0 k 5 0 ⟨n,env,[⟨145,5,l.map DBuf.o,true,true⟩]⟩
  have hk:k<l.length:=(az.1 h).1
  have hg:∀ row:List Cl,((l.map DBuf.o).set k row)[k]?=some row:=fun row=>aN APQ
  have hb:l[k]=b:=(az.1 h).2
  simp only[openR,CV,go_sem,nX,h,bi,DBuf.o_eq,hg,al] at h2
  exact h2
def Nz (b:DBuf):DBuf:=⟨b.gen,2,⟨0,[]⟩,[0]⟩
def Qr (l:List DBuf):List DBuf:=if Gt l<0 then l else l.modify (Gt l).toNat Nz
theorem vG {l:List DBuf} {k:Nat} (hk:k<l.length) (h:Gt l=k):Qr l=l.set k (Nz l[k]):=by have:¬ ((k:Int)<0):=AOl;rw[Qr,h,aR this,aZ,Ew _ hk]
theorem vH {l:List DBuf} (h:Gt l = -1):Qr l=l:=by rw[Qr,h]; rfl
theorem vI (l:List DBuf) (hl:fitS Ef l):Ctr prog 77 [.c (.sl (l.map DBuf.c)),.c (.v (.int .i64 (2))),.c (.v (.int .i64 (0)))] [.own 145 5 ((Qr l).map DBuf.o) true,.val (.c (.v (.int .i64 (Gt l))))]:=by
 have hlen:=hl.1;refine ACf call77 func77 rfl mixed ntmps77 results77 (by kernel_rfl) rfl fun hw=>?_;simp only[go_sem];refine AAO _ (Su l hl) fun _=>?_;simp only[go_sem];refine AAe 1 (A:=Nat) (fun x=>[(9,.c (.v (.int .i64 (x))))]) (fun _=>[⟨145,5,l.map DBuf.o,true,true⟩]) (FW l fun b=>!QV b) (fun x=>l.length-x) 0 ⟨⟨rfl,AJr⟩,rfl,D9⟩ ?_;intro k hk;rcases h:decide ((k:Int)<(l.length:Int)) with _ | _
 .have hk':k=l.length:=by have:=hk.1; simp at h; omega
  subst hk';have e1:Gt l = -1:=kV hk;simp only[go_sem,aa,h,e1,vH e1];exact AMX
 have hk':k<l.length:=APO;have hr:Ae 2 1 2=true:=rfl;have h11:((2:Int)==1)=false/\((2:Int)==2)=true:=⟨rfl,rfl⟩;simp only[go_sem,aa,h];refine AAO _ (AP 2 1 2) fun _=>?_;simp only[go_sem,hr,AA _ hk'];rcases q:l[k].kind != 0 with _ | _;rotate_left
 .have hw1:IntKind.i64.wrap ((k:Int)+1)=(k:Int)+1:=wrap_i64 AOl AOl;simp only[go_sem,hw1];exact⟨k+1,⟨rfl,AJr⟩,rfl,CB hk' hk (by simp only[QV]; simp only[bne] at q; exact q),AOl⟩
 have e1:Gt l=k:=kU hk' hk (by simp only[QV]; simpa [bne] using q);have hg:∀ row:List Cl,((l.map DBuf.o).set k row)[k]?=some row:=fun row=>aN (by simpa using hk');have hs:(l.map DBuf.o).set k (DBuf.o (Nz l[k]))=(l.set k (Nz l[k])).map DBuf.o:=bn.symm;simp only[DBuf.o_eq,go_sem] at hs;simp only[go_sem,h11,e1,vG hk' e1,aa,ak,AA _ hk',hk',hg];repeat (refine AAR ?_; simp only[go_sem,aa,ak,hk',hg,al])
 try simp only[go_sem,al]
 refine EndH.close 0 k [1] (row':=DBuf.o (Nz l[k])) rfl (hg _) rfl AOu ?_ ?_
 .simp only[go_sem,Nz];simp[AB,DR,Ij]
 simp only[Aa,BR,go_sem,al,hs];exact AMX
theorem Yj (l:List DBuf) (hl:fitS Ef l):Ctr prog 113 [.c (.sl (l.map DBuf.c)),.c (.v (.int .i64 (2))),.c (.v (.int .i64 (0)))] [.own 145 5 ((Qr l).map DBuf.o) true,.val (.c (.v (.int .i64 (Gt l))))]:=by
 have hlen:=hl.1;refine ACf call113 func113 rfl mixed ntmps113 results113 (by kernel_rfl) rfl fun hw=>?_;simp only[go_sem];refine AAO _ (OI l hl) fun _=>?_;simp only[go_sem,aa];refine AAv [] (A:=Nat) (fun x=>[(15,.c (.v (.int .i64 (x))))]) (fun x=>tkS l x) (FW l fun b=>!QV b) (fun x=>l.length-x) 0 (AAq _ _ l 0) D9 ?_;intro k hk;rcases h:decide ((k:Int)<(l.length:Int)) with _ | _
 .have hk':k=l.length:=by have:=hk.1; simp at h; omega
  subst hk';have e1:Gt l = -1:=kV hk;have e2:tkS l l.length = [⟨145,5,l.map DBuf.o,true,true⟩]:=by simp[tkS]
  simp only[go_sem,h,e1,e2,vH e1];exact AMX
 have hk':k<l.length:=APO;have e2:tkS l k = [⟨145,5,(l.map DBuf.o).set k [.v (.int .i64 l[k].gen),.v (.int .i64 l[k].kind),.v (.int .i64 l[k].c0.next),.ref 1,.ref 2],true,true⟩,⟨189,2,l[k].c0.l.map DSlot.o,true,true⟩,⟨5,1,l[k].g.map byteC,true,true⟩]:=by simp only[tkS,am hk']
 have hg:∀ row:List Cl,((l.map DBuf.o).set k row)[k]?=some row:=fun row=>aN (by simpa using hk');simp only[go_sem,aa,ak,h,e2,hk',hg];rcases q:l[k].kind != 0 with _ | _;rotate_left
 .have hw1:IntKind.i64.wrap ((k:Int)+1)=(k:Int)+1:=wrap_i64 AOl AOl;have hs:(l.map DBuf.o).set k (DBuf.o l[k])=l.map DBuf.o:=by rw[<- bn,abc]
  simp only[DBuf.o_eq,go_sem] at hs;simp only[go_sem,hw1];refine⟨k+1,Head.trans (Head.close 0 k [1,2] (row':=DBuf.o l[k]) rfl (hg _) rfl AOu ?_) ?_,CB hk' hk (by simp only[QV]; simp only[bne] at q; exact q),AOl⟩
  .simp only[go_sem,DBuf.o_eq];simp[AB]
  simp only[Aa,BR,go_sem,al,hs];refine Head.trans (AAS [(0,true)] ⟨rfl,rfl,D5 (A7 _),trivial⟩ ?_) (AAq _ _ l (k+1));show (⟨51,_,[⟨145,5,(l.map DBuf.o).map (fun x=>x.map (QT [(0,true)])),true,true⟩]⟩:MS)=_;rw[Df (A7 l)];rfl
 have e1:Gt l=k:=kU hk' hk (by simp only[QV]; simpa [bne] using q);have h11:((2:Int)==1)=false/\((2:Int)==2)=true:=⟨rfl,rfl⟩;have hs:(l.map DBuf.o).set k (DBuf.o (Nz l[k]))=(l.set k (Nz l[k])).map DBuf.o:=bn.symm;simp only[DBuf.o_eq,go_sem] at hs;simp only[go_sem,h11,e1,vG hk' e1,aa,ak,hk',hg];repeat (refine AAR ?_; simp only[go_sem,aa,ak,hk',hg,al])
 try simp only[go_sem,al]
 refine EndH.close 0 k [4] (row':=DBuf.o (Nz l[k])) rfl (hg _) rfl AOu ?_ ?_
 .simp only[go_sem,Nz];simp[AB,DR,Ij]
 simp only[Aa,BR,go_sem,al,hs];exact AMX

def AHg (w:DWorld) (r:DRef):DChunk:=((w.b[r.buf.toNat]?).map DBuf.c0).getD ⟨0,[]⟩
def DU (t:DTask) (own pc:Int):DTask:=⟨t.op,pc,t.h,t.r,t.id,t.q,t.ts,t.ver,t.l,t.i,t.j,t.s,t.at0,own,t.won,t.got⟩
def FK (w:DWorld) (b:List DBuf):DWorld:=⟨w.c0,w.time,w.t,w.e,w.d,b,w.m,w.x,w.p,w.tasks,w.deeds⟩
def Kr (w:DWorld) (t:DTask):DWorld:=FK w (Pi w.b (t.own-1))
theorem Pj {w:DWorld} (h:Dl w=true):w.d.l.length<=8:=by unfold Dl J4 at h;simp only[ar,aa8,aaA] at h;omega
