/- A part. -/
import Derived.Test.YtnoldekcdlaahaaGreatPVi
import Derived.Test.YtnoldekcdlaahaaGreatPTa
set_option linter.unusedSimpArgs false
set_option linter.unusedVariables false
set_option maxHeartbeats 4000000
set_option maxRecDepth 10000
open Go.Proofs.Tryz
namespace Go.Proofs.YtnoldekcdlaahaaGreat
open Go.Vm
def yM (n:Int):Nat:=if Ad n 1 4=true then n.toNat else 1
def Oy (n:Int):DChunk:=⟨0,List.replicate (yM n) ⟨0,[]⟩⟩
theorem AFc (n:Int):1≤yM n∧yM n≤4:=by
 unfold yM
 split
 ·rename_i h; simp only[Ad,ay,aZ] at h; omega
 ·omega
theorem Qz (n:Int):Ctr prog 262 [.c (.v (.int .i64 (n)))] [.agg (Oy n).o]:=by
 refine AC2 call262 func262 rfl mixed ntmps262 results262 (by kernel_rfl) rfl fun hw=>?_
 simp only[go_sem]
 try refine AAm ?_
 try simp only[go_sem]
 first | refine ABL _ (AL n 1 4) ?_ | refine AAM _ (AL n 1 4) fun _=>?_
 rcases h1:Ad n 1 4 with _ | _
 ·have e:Oy n=⟨0,[⟨0,[]⟩]⟩:=by simp[Oy,yM,h1]
  have q:(0:Int)≤1∧(1:Int)≤1∧(1:Int)≤2147483648:=AOQ
  simp only[go_sem,h1,aS,e,q]
  refine EndH.close 1 0 [] (row':=DSlot.o ⟨0,[]⟩) rfl rfl rfl AOU ?_ ?_
  ·exact AIy
  simp only[AQ,Ap,go_sem,ai]
  exact AG4
 ·have hm:n=1∨n=2∨n=3∨n=4:=by simp only[Ad,ay,aZ] at h1; omega
  rcases hm with rfl | rfl | rfl | rfl
  ·have e:Oy 1=⟨0,[⟨0,[]⟩]⟩:=rfl
   have q:(0:Int)≤1∧(1:Int)≤1∧(1:Int)≤2147483648:=AOQ
   simp only[go_sem,h1,aP,e,q]
   refine EndH.close 1 0 [] (row':=DSlot.o ⟨0,[]⟩) rfl rfl rfl AOU ?_ ?_
   ·exact AIy
   simp only[AQ,Ap,go_sem,ai]
   exact AG4
  ·have e:Oy 2=⟨0,[⟨0,[]⟩,⟨0,[]⟩]⟩:=rfl
   have q:(0:Int)≤2∧(2:Int)≤2∧(2:Int)≤2147483648:=AOQ
   simp only[go_sem,h1,aP,e,q]
   refine EndH.close 1 0 [] (row':=DSlot.o ⟨0,[]⟩) rfl rfl rfl AOU ?_ ?_
   ·exact AIy
   simp only[AQ,Ap,go_sem,ai]
   refine EndH.close 1 1 [] (row':=DSlot.o ⟨0,[]⟩) rfl rfl rfl AOU ?_ ?_
   ·exact AIy
   simp only[AQ,Ap,go_sem,ai]
   exact AG4
  ·have e:Oy 3=⟨0,[⟨0,[]⟩,⟨0,[]⟩,⟨0,[]⟩]⟩:=rfl
   have q:(0:Int)≤3∧(3:Int)≤3∧(3:Int)≤2147483648:=AOQ
   simp only[go_sem,h1,aP,e,q]
   refine EndH.close 1 0 [] (row':=DSlot.o ⟨0,[]⟩) rfl rfl rfl AOU ?_ ?_
   ·exact AIy
   simp only[AQ,Ap,go_sem,ai]
   refine EndH.close 1 1 [] (row':=DSlot.o ⟨0,[]⟩) rfl rfl rfl AOU ?_ ?_
   ·exact AIy
   simp only[AQ,Ap,go_sem,ai]
   refine EndH.close 1 2 [] (row':=DSlot.o ⟨0,[]⟩) rfl rfl rfl AOU ?_ ?_
   ·exact AIy
   simp only[AQ,Ap,go_sem,ai]
   exact AG4
  ·have e:Oy 4=⟨0,[⟨0,[]⟩,⟨0,[]⟩,⟨0,[]⟩,⟨0,[]⟩]⟩:=rfl
   have q:(0:Int)≤4∧(4:Int)≤4∧(4:Int)≤2147483648:=AOQ
   simp only[go_sem,h1,aP,e,q]
   refine EndH.close 1 0 [] (row':=DSlot.o ⟨0,[]⟩) rfl rfl rfl AOU ?_ ?_
   ·exact AIy
   simp only[AQ,Ap,go_sem,ai]
   refine EndH.close 1 1 [] (row':=DSlot.o ⟨0,[]⟩) rfl rfl rfl AOU ?_ ?_
   ·exact AIy
   simp only[AQ,Ap,go_sem,ai]
   refine EndH.close 1 2 [] (row':=DSlot.o ⟨0,[]⟩) rfl rfl rfl AOU ?_ ?_
   ·exact AIy
   simp only[AQ,Ap,go_sem,ai]
   refine EndH.close 1 3 [] (row':=DSlot.o ⟨0,[]⟩) rfl rfl rfl AOU ?_ ?_
   ·exact AIy
   simp only[AQ,Ap,go_sem,ai]
   exact AG4
theorem Q3 (n:Int):Ctr prog 257 [.c (.v (.int .i64 (n)))] [.agg (Oy n).o]:=by
 refine AC2 call257 func257 rfl mixed ntmps257 results257 (by kernel_rfl) rfl fun hw=>?_
 simp only[go_sem]
 try refine AAm ?_
 try simp only[go_sem]
 first | refine ABL _ (AO n 1 4) ?_ | refine AAM _ (AO n 1 4) fun _=>?_
 rcases h1:Ad n 1 4 with _ | _
 ·simp only[go_sem,h1,aS]
  refine ABZ [8,7] (A:=Nat) (fun x=>[(4,.c (.v (.int .i64 ((x:Int))))),(3,.lp 1 0 0)]) (fun x=>[⟨140,2,[[.v (.int .i64 0),.v (.slice none 0 0)]],true,true⟩,⟨140,2,[[.v (.int .i64 0),.ref 2]],true,true⟩,⟨199,2,List.replicate x [.v (.int .i64 0),.v (.slice none 0 0)],true,true⟩]) (fun x=>x≤1) (fun x=>1-x) 0
   ?_ (aA _) ?_
  ·exact AK4
  rintro x hx
  refine AOJ (fun h=>?_) fun h=>?_
  ·have h0:x<1:=by simp at h; omega
   exact AHZ
  ·have h0:x=1:=by simp at h; omega
   subst h0
   have e:Oy n=⟨0,[⟨0,[]⟩]⟩:=by simp[Oy,yM,h1]
   simp only[go_sem,e]
   refine EndH.close 2 0 [] (row':=DSlot.o ⟨0,[]⟩) rfl rfl rfl AOU ?_ ?_
   ·exact AIy
   simp only[AQ,Ap,go_sem,ai]
   exact AG4
 ·obtain⟨m,rfl⟩:∃ m:Nat,n=(m:Int):=aQ (by simp only[Ad,ay,aZ] at h1; omega)
  have hm:m=1∨m=2∨m=3∨m=4:=by simp only[Ad,ay,aZ] at h1; omega
  simp only[go_sem,h1,aP]
  refine ABZ [8,7] (A:=Nat) (fun x=>[(4,.c (.v (.int .i64 ((x:Int))))),(3,.lp 1 0 0)]) (fun x=>[⟨140,2,[[.v (.int .i64 0),.v (.slice none 0 0)]],true,true⟩,⟨140,2,[[.v (.int .i64 0),.ref 2]],true,true⟩,⟨199,2,List.replicate x [.v (.int .i64 0),.v (.slice none 0 0)],true,true⟩]) (fun x=>x≤m) (fun x=>m-x) 0
   ?_ (aA _) ?_
  ·exact AK4
  rintro x hx
  refine AOJ (fun h=>?_) fun h=>?_
  ·have h0:x<m:=by simp at h; omega
   exact AHZ
  ·have h0:x=m:=by simp at h; omega
   subst h0
   rcases hm with rfl | rfl | rfl | rfl
   ·have e:Oy ((1:Nat):Int)=⟨0,[⟨0,[]⟩]⟩:=rfl
    simp only[go_sem,e]
    refine EndH.close 2 0 [] (row':=DSlot.o ⟨0,[]⟩) rfl rfl rfl AOU ?_ ?_
    ·exact AIy
    simp only[AQ,Ap,go_sem,ai]
    exact AG4
   ·have e:Oy ((2:Nat):Int)=⟨0,[⟨0,[]⟩,⟨0,[]⟩]⟩:=rfl
    simp only[go_sem,e]
    refine EndH.close 2 0 [] (row':=DSlot.o ⟨0,[]⟩) rfl rfl rfl AOU ?_ ?_
    ·exact AIy
    simp only[AQ,Ap,go_sem,ai]
    refine EndH.close 2 1 [] (row':=DSlot.o ⟨0,[]⟩) rfl rfl rfl AOU ?_ ?_
    ·exact AIy
    simp only[AQ,Ap,go_sem,ai]
    exact AG4
   ·have e:Oy ((3:Nat):Int)=⟨0,[⟨0,[]⟩,⟨0,[]⟩,⟨0,[]⟩]⟩:=rfl
    simp only[go_sem,e]
    refine EndH.close 2 0 [] (row':=DSlot.o ⟨0,[]⟩) rfl rfl rfl AOU ?_ ?_
    ·exact AIy
    simp only[AQ,Ap,go_sem,ai]
    refine EndH.close 2 1 [] (row':=DSlot.o ⟨0,[]⟩) rfl rfl rfl AOU ?_ ?_
    ·exact AIy
    simp only[AQ,Ap,go_sem,ai]
    refine EndH.close 2 2 [] (row':=DSlot.o ⟨0,[]⟩) rfl rfl rfl AOU ?_ ?_
    ·exact AIy
    simp only[AQ,Ap,go_sem,ai]
    exact AG4
   ·have e:Oy ((4:Nat):Int)=⟨0,[⟨0,[]⟩,⟨0,[]⟩,⟨0,[]⟩,⟨0,[]⟩]⟩:=rfl
    simp only[go_sem,e]
    refine EndH.close 2 0 [] (row':=DSlot.o ⟨0,[]⟩) rfl rfl rfl AOU ?_ ?_
    ·exact AIy
    simp only[AQ,Ap,go_sem,ai]
    refine EndH.close 2 1 [] (row':=DSlot.o ⟨0,[]⟩) rfl rfl rfl AOU ?_ ?_
    ·exact AIy
    simp only[AQ,Ap,go_sem,ai]
    refine EndH.close 2 2 [] (row':=DSlot.o ⟨0,[]⟩) rfl rfl rfl AOU ?_ ?_
    ·exact AIy
    simp only[AQ,Ap,go_sem,ai]
    refine EndH.close 2 3 [] (row':=DSlot.o ⟨0,[]⟩) rfl rfl rfl AOU ?_ ?_
    ·exact AIy
    simp only[AQ,Ap,go_sem,ai]
    exact AG4
def Pj (b:DBuf):Bool:=b.kind==0
def GN (l:List DBuf):Int:=PX Pj l
def Oz (s:Int) (b:DBuf):DBuf:=⟨b.gen,1,Oy s,[]⟩
def QI (l:List DBuf) (s:Int):List DBuf:=if GN l<0 then l else l.modify (GN l).toNat (Oz s)
theorem take_at {l:List DBuf} {k:Nat} (s:Int) (hk:k<l.length) (h:GN l=k):QI l s=l.set k (Oz s l[k]):=by
 have:¬ ((k:Int)<0):=AOQ
 rw[QI,h,bz this,bW,Df _ hk]
theorem AAK {l:List DBuf} (s:Int) (h:GN l = -1):QI l s=l:=by rw[QI,h]; rfl
theorem AJk {l:List DBuf}:([⟨142,5,l.map DBuf.o,true,true⟩]:List Ob).all (Aw 1)=true:=allA (AU (BK _))
theorem yN (l:List DBuf) (s:Int) (hl:fitS E8 l):Ctr prog 149 [.c (.sl (l.map DBuf.c)),.c (.v (.int .i64 (1))),.c (.v (.int .i64 (s)))] [.own 142 5 ((QI l s).map DBuf.o) true,.val (.c (.v (.int .i64 (GN l))))]:=by
 have hlen:=hl.1
 refine AC2 call149 func149 rfl mixed ntmps149 results149 (by kernel_rfl) rfl fun hw=>?_
 simp only[go_sem]
 refine AAM _ (Qg l hl) fun _=>?_
 simp only[go_sem,ae]
 refine ABK 1 (A:=Nat) (fun x=>[(9,.c (.v (.int .i64 (x))))]) (fun _=>[⟨142,5,l.map DBuf.o,true,true⟩]) (FC l fun b=>!Pj b) (fun x=>l.length-x) 0 ⟨⟨rfl,AJk⟩,rfl,DZ⟩ ?_
 intro k hk
 rcases h:decide ((k:Int)<(l.length:Int)) with _ | _
 ·have hk':k=l.length:=by have:=hk.1; simp at h; omega
  subst hk'
  have e1:GN l = -1:=SI hk
  simp only[go_sem,ae,h,e1,AAK s e1]
  exact AMN
 have hk':k<l.length:=AOz
 have hr:Ad 1 1 2=true:=rfl
 have h11:((1:Int)==1)=true:=rfl
 simp only[go_sem,ae,h]
 refine AAM _ (AO 1 1 2) fun _=>?_
 simp only[go_sem,hr,ae,AA _ hk',hk']
 rcases q:l[k].kind != 0 with _ | _
 rotate_left
 ·have hw1:IntKind.i64.wrap ((k:Int)+1)=(k:Int)+1:=wrap_i64 AOQ AOQ
  simp only[go_sem,hw1,q]
  exact⟨k+1,⟨rfl,AJk⟩,rfl,BH hk' hk (by simp only[Pj]; simp only[bne] at q; exact q),AOQ⟩
 have e1:GN l=k:=SH hk' hk (by simp only[Pj]; simpa [bne] using q)
 have hg:∀ row:List Cl,((l.map DBuf.o).set k row)[k]?=some row:=fun row=>bG (by simpa using hk')
 have hs:(l.map DBuf.o).set k (DBuf.o (Oz s l[k]))=(l.set k (Oz s l[k])).map DBuf.o:=Qh.symm
 simp only[DBuf.o_eq,go_sem] at hs
 simp only[go_sem,q,h11,e1,take_at s hk' e1,ae,ah,AA _ hk',hk',hg]
 first | refine CW (Q3 s) fun _=>?_ | (refine ABH ?_; simp only[go_sem,ae,ah,hk',hg]; refine CZ (Q3 s) ?_)
 simp only[go_sem,ae,ah,hk',hg,ai]
 refine EndH.close 0 k [1] (row':=DBuf.o (Oz s l[k])) rfl (hg _) rfl AOU ?_ ?_
 ·simp only[go_sem,Oz]
  simp[AB,BJ,D6]
 simp only[AQ,Ap,go_sem,ai,hs]
 exact AMN
def tkS (l:List DBuf) (k:Nat):List Ob:=match l[k]? with
 | some b=>[⟨142,5,(l.map DBuf.o).set k [.v (.int .i64 b.gen),.v (.int .i64 b.kind),.v (.int .i64 b.c0.next),.ref 1,.ref 2],true,true⟩,⟨199,2,b.c0.l.map DSlot.o,true,true⟩,⟨5,1,b.g.map byteC,true,true⟩]
 | none=>[⟨142,5,l.map DBuf.o,true,true⟩]
theorem AAL (n:Nat) (env:List (Nat×AV)) (l:List DBuf) (k:Nat):Head ⟨n,env,[⟨142,5,l.map DBuf.o,true,true⟩]⟩ ⟨n,env,tkS l k⟩:=by
 unfold tkS
 cases h:l[k]? with
 | none=>exact Head.same _
 | some b =>
  have h2:=Head.openR 0 k 5 0 ⟨n,env,[⟨142,5,l.map DBuf.o,true,true⟩]⟩
  have hk:k<l.length:=(aF.1 h).1
  have hg:∀ row:List Cl,((l.map DBuf.o).set k row)[k]?=some row:=fun row=>bG AO1
  have hb:l[k]=b:=(aF.1 h).2
  simp only[openR,B_,go_sem,mW,h,bY,DBuf.o_eq,hg,ai] at h2
  exact h2
theorem dG (l:List DBuf) (s:Int) (hl:fitS E8 l):Ctr prog 156 [.c (.sl (l.map DBuf.c)),.c (.v (.int .i64 (1))),.c (.v (.int .i64 (s)))] [.own 142 5 ((QI l s).map DBuf.o) true,.val (.c (.v (.int .i64 (GN l))))]:=by
 have hlen:=hl.1
 refine AC2 call156 func156 rfl mixed ntmps156 results156 (by kernel_rfl) rfl fun hw=>?_
 simp only[go_sem]
 refine AAM _ (NJ l hl) fun _=>?_
 simp only[go_sem,ae]
 refine ABZ [] (A:=Nat) (fun x=>[(15,.c (.v (.int .i64 (x))))]) (fun x=>tkS l x) (FC l fun b=>!Pj b) (fun x=>l.length-x) 0 (AAL _ _ l 0) DZ ?_
 intro k hk
 rcases h:decide ((k:Int)<(l.length:Int)) with _ | _
 ·have hk':k=l.length:=by have:=hk.1; simp at h; omega
  subst hk'
  have e1:GN l = -1:=SI hk
  have e2:tkS l l.length = [⟨142,5,l.map DBuf.o,true,true⟩]:=by simp[tkS]
  simp only[go_sem,ae,h,e1,e2,AAK s e1]
  exact AMN
 have hk':k<l.length:=AOz
 have e2:tkS l k = [⟨142,5,(l.map DBuf.o).set k [.v (.int .i64 l[k].gen),.v (.int .i64 l[k].kind),.v (.int .i64 l[k].c0.next),.ref 1,.ref 2],true,true⟩,⟨199,2,l[k].c0.l.map DSlot.o,true,true⟩,⟨5,1,l[k].g.map byteC,true,true⟩]:=by simp only[tkS,au hk']
 have hg:∀ row:List Cl,((l.map DBuf.o).set k row)[k]?=some row:=fun row=>bG (by simpa using hk')
 simp only[go_sem,ae,ah,h,e2,hk',hg]
 rcases q:l[k].kind != 0 with _ | _
 rotate_left
 ·have hw1:IntKind.i64.wrap ((k:Int)+1)=(k:Int)+1:=wrap_i64 AOQ AOQ
  have hs:(l.map DBuf.o).set k (DBuf.o l[k])=l.map DBuf.o:=by rw[← Qh,abn]
  simp only[DBuf.o_eq,go_sem] at hs
  simp only[go_sem,hw1,q]
  refine⟨k+1,Head.trans (Head.close 0 k [1,2] (row':=DBuf.o l[k]) rfl (hg _) rfl AOU ?_) ?_,BH hk' hk (by simp only[Pj]; simp only[bne] at q; exact q),AOQ⟩
  ·simp only[go_sem,DBuf.o_eq]
   simp[AB,BJ,D6]
  simp only[AQ,Ap,go_sem,ai,hs]
  refine Head.trans (ABJ [(0,true)] ⟨rfl,rfl,EY (BK _),trivial⟩ ?_) (AAL _ _ l (k+1))
  show (⟨51,_,[⟨142,5,(l.map DBuf.o).map (fun x=>x.map (QP [(0,true)])),true,true⟩]⟩:MS)=_
  rw[Dx (BK l)]
  rfl
 have e1:GN l=k:=SH hk' hk (by simp only[Pj]; simpa [bne] using q)
 have h11:((1:Int)==1)=true:=rfl
 have hs:(l.map DBuf.o).set k (DBuf.o (Oz s l[k]))=(l.set k (Oz s l[k])).map DBuf.o:=Qh.symm
 simp only[DBuf.o_eq,go_sem] at hs
 simp only[go_sem,q,h11,e1,take_at s hk' e1,ae,ah,AA _ hk',hk',hg]
 first | refine CW (Qz s) fun _=>?_ | (refine ABH ?_; simp only[go_sem,ae,ah,hk',hg]; refine CZ (Qz s) ?_)
 simp only[go_sem,ae,ah,hk',hg,ai]
 refine EndH.close 0 k [4] (row':=DBuf.o (Oz s l[k])) rfl (hg _) rfl AOU ?_ ?_
 ·simp only[go_sem,Oz]
  simp[AB,BJ,D6]
 simp only[AQ,Ap,go_sem,ai,hs]
 exact AMN
end Go.Proofs.YtnoldekcdlaahaaGreat
