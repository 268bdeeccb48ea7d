/- A part. -/
import Derived.Test.YtnoldekcdlaahaaGreatPEy
import Derived.Test.YtnoldekcdlaahaaGreatPVi
import Derived.Test.YtnoldekcdlaahaaGreatPVq
set_option linter.unusedSimpArgs false
set_option linter.unusedVariables false
set_option maxHeartbeats 4000000
set_option maxRecDepth 10000
namespace Go.Vm
theorem Ctr.fz2 {P:Program} {f:FuncId} {args:List AV} {cl ys:List Cl} {v:AV} (h:Ctr P f args [.agg cl,.val v]) (he:KA cl=ys):Ctr P f args [.val (.agg ys),.val v]:=by
 subst he
 exact h.frz
end Go.Vm
namespace Go.Proofs.YtnoldekcdlaahaaGreat
open Go.Vm
theorem Yt {α:Type} {f:α→Int→Int}:∀ (xs:List α) (_:∀ x∈xs,∀ l,0≤f x l→l≤1048576→f x l≤l) (l:Int),0≤XV f xs l→l≤1048576→∀ x∈xs,∃ l',l'≤1048576∧0≤f x l'
 | [],_,_,_,_,_,h=>AOx
 | y::ys,hf,l,h0,hl,x,hx=>by
  simp only[XV] at h0
  obtain⟨h1,h2,h3⟩:=AZ h0
  rcases SK.1 hx with rfl | hx
  ·exact⟨l,hl,h1⟩
  ·exact Yt ys (fun z hz=>hf z (by simp[hz])) _ h2 (by have:=hf y AOR l h1 hl; omega) x hx
theorem n_ {α:Type} {f:α→Int→Int} (xs:List α) (hf:∀ x∈xs,∀ l,0≤f x l→l≤1048576→f x l≤l) {l:Int} (h:0≤DW f xs l) (hl:l≤1048576):DW f xs l≤l-xs.length:=by
 unfold DW at h ⊢
 obtain⟨a1,b1,c1⟩:=AZ h
 have h3:¬ l-xs.length<0:=by intro h3; rw[zI h3] at a1; omega
 rw[c1]
 have c2:=(kz xs (F:=fun _=>True) (fun x hx l a b=>⟨trivial,hf x hx l a b⟩) _ b1 (by rw[kw h3]; omega)).2
 rw[kw h3] at c2 ⊢
 exact c2
theorem AFd {xs:List DBuf} {l:Int} (h0:0≤DW HY xs l) (hl:l≤1048576):∀ x∈xs,∀ k,H_ k x≤k+67108928:=fun x hx k=>by
 unfold DW at h0
 obtain⟨h1,h2,_⟩:=AZ h0
 obtain⟨l',g1,g2⟩:=Yt xs (fun x _ l a b=>(KI x l a b).2) _ h2 (by have:=(CB h1 hl).2; omega) x hx
 have:=qH x k l' g2 g1
 omega
theorem ADq {xs:List DTask} {l:Int} (h0:0≤DW I4 xs l) (hl:l≤1048576):∀ x∈xs,∀ k,Dw k x≤k+67108928:=fun x hx k=>by
 unfold DW at h0
 obtain⟨h1,h2,_⟩:=AZ h0
 obtain⟨l',g1,g2⟩:=Yt xs (fun x _ l a b=>(JP x l a b).2) _ h2 (by have:=(CB h1 hl).2; omega) x hx
 have:=WM x k l' g2 g1
 omega
theorem ADr {xs:List DDeed} {l:Int} (h0:0≤DW KF xs l) (hl:l≤1048576):∀ x∈xs,∀ k,Gl k x≤k+67108928:=fun x hx k=>by
 unfold DW at h0
 obtain⟨h1,h2,_⟩:=AZ h0
 obtain⟨l',g1,g2⟩:=Yt xs (fun x _ l a b=>(NG x l a b).2) _ h2 (by have:=(CB h1 hl).2; omega) x hx
 have:=jR x k l' g2 g1
 omega
theorem ADs {w:DWorld} (h0:0≤Ip w 1048576):w.deeds.length+w.tasks.length≤1048576∧(∀ x∈w.b,∀ k,H_ k x≤k+67108928)∧(∀ x∈w.tasks,∀ k,Dw k x≤k+67108928)∧(∀ x∈w.deeds,∀ k,Gl k x≤k+67108928):=by
 rw[KG] at h0
 obtain⟨a0,b0,_⟩:=AZ h0
 have w0:=(NH w.c0 _ a0 AOQ).2
 obtain⟨a1,b1,_⟩:=AZ b0
 have w1:=(Oc w.d _ a1 AOQ).2
 obtain⟨a2,b2,_⟩:=AZ b1
 have w2:=(Dp w.b (fun x _=>KI x) a2 AOQ).2
 obtain⟨a3,b3,_⟩:=AZ b2
 have w3:=(CB a3 AOQ).2
 obtain⟨a4,b4,_⟩:=AZ b3
 have w4:=(CB a4 AOQ).2
 obtain⟨a5,b5,_⟩:=AZ b4
 have w5:=(CB a5 AOQ).2
 obtain⟨a6,b6,_⟩:=AZ b5
 have w6:=n_ w.tasks (fun x _ l a b=>(JP x l a b).2) a6 AOQ
 obtain⟨a7,b7,_⟩:=AZ b6
 have w7:=n_ w.deeds (fun x _ l a b=>(NG x l a b).2) a7 AOQ
 exact⟨AOQ,AFd a2 AOQ,ADq a6 AOQ,ADr a7 AOQ⟩
theorem KY {α:Type} {c:Int→α→Int} (hc:∀ (k a:Int) (x:α),c (k+a) x=c k x+a):∀ (l:List α) (k a:Int),D5 c (k+a) l=D5 c k l+a
 | [],k,a=>rfl
 | x::xs,k,a=>by simp only[D5]; rw[hc,KY hc xs]
theorem Xz (k a:Int) (x:DRow):Gp (k+a) x=Gp k x+a:=by
 exact AML
theorem ADt {t t':DTask} {r:DRef} (he:t'.r=t.r) (hq:t'.q=t.q) (hl:t'.l = [r]) (hg:t'.got=t.got) (k:Int):Dw k t'≤Dw k t+5:=by
 have e:Dc k t'=Dc k t:=by unfold Dc F8 Am; rw[he,hq]
 have g:Aj k t'=Dc k t+2+5:=by unfold Aj; rw[hl,e]; rfl
 exact ALe
theorem uJ {α:Type} {f:α→Int→Int}:∀ (xs:List α) (_:∀ x∈xs,∀ l,0≤f x l→l≤1048576→f x l≤l) (l:Int),0≤XV f xs l→l≤1048576→∀ x∈xs,∃ l',l'≤l∧0≤f x l'
 | [],_,_,_,_,_,h=>AOx
 | y::ys,hf,l,h0,hl,x,hx=>by
  simp only[XV] at h0
  obtain⟨h1,h2,h3⟩:=AZ h0
  have h4:=hf y AOR l h1 hl
  rcases SK.1 hx with rfl | hx
  ·exact⟨l,sG _,h1⟩
  ·obtain⟨l',a,b⟩:=uJ ys (fun z hz=>hf z (by simp[hz])) _ h2 AOQ x hx
   exact⟨l',AOQ,b⟩
theorem ABo {xs:List DTask} {l:Int} (h0:0≤DW I4 xs l) (hl:l≤1048576):∀ x∈xs,∀ k,Dw k x≤k+67108864:=fun x hx k=>by
 unfold DW at h0
 obtain⟨h1,h2,_⟩:=AZ h0
 have hp:0<xs.length:=List.length_pos_of_mem hx
 have h3:F6 xs.length l≤1048575:=by
  unfold F6
  split<;>omega
 obtain⟨l',g1,g2⟩:=uJ xs (fun x _ l a b=>(JP x l a b).2) _ h2 AOQ x hx
 have:=WM x k l' g2 AOQ
 omega
theorem ADu {w:DWorld} (h0:0≤Ip w 1048576):∀ x∈w.tasks,∀ k,Dw k x≤k+67108864:=by
 rw[KG] at h0
 obtain⟨a0,b0,_⟩:=AZ h0
 have w0:=(NH w.c0 _ a0 AOQ).2
 obtain⟨a1,b1,_⟩:=AZ b0
 have w1:=(Oc w.d _ a1 AOQ).2
 obtain⟨a2,b2,_⟩:=AZ b1
 have w2:=(Dp w.b (fun x _=>KI x) a2 AOQ).2
 obtain⟨a3,b3,_⟩:=AZ b2
 have w3:=(CB a3 AOQ).2
 obtain⟨a4,b4,_⟩:=AZ b3
 have w4:=(CB a4 AOQ).2
 obtain⟨a5,b5,_⟩:=AZ b4
 have w5:=(CB a5 AOQ).2
 obtain⟨a6,b6,_⟩:=AZ b5
 exact ABo a6 AOQ
def LeB (x y:DBuf):Prop:=(E8 y→E8 x)∧∀ k,H_ k x≤H_ k y
def LeD (x y:DDeed):Prop:=(GK y→GK x)∧∀ k,Gl k x≤Gl k y
def LeT (x y:DTask):Prop:=(Gu y→Gu x)∧∀ k,Dw k x≤Dw k y+5
def Js {α:Type} (R:α→α→Prop) (xs ys:List α):Prop:=xs.length=ys.length∧∀ x∈xs,∃ y∈ys,R x y
theorem CG {α:Type} {R:α→α→Prop} (h:∀ x,R x x) (xs:List α):Js R xs xs:=⟨rfl,fun x hx=>⟨x,hx,h x⟩⟩
theorem OA {α:Type} {R:α→α→Prop} (h:∀ x,R x x) {xs:List α} {n:Nat} {y:α} (hn:n<xs.length) (hy:R y xs[n]):Js R (xs.set n y) xs:=⟨ah ..,fun x hx=>by
 rcases aaO hx with g | rfl
 ·exact⟨x,g,h x⟩
 ·exact⟨_,ax hn,hy⟩⟩
theorem SY {α:Type} {R:α→α→Prop} (h:∀ x,R x x) {xs ys:List α} (hxy:Js R xs ys) (tr:∀ x y z,R x y→R y z→R x z) {n:Nat} {g:α→α} (hg:∀ x,R (g x) x):Js R (xs.modify n g) ys:=by
 by_cases hn:n<xs.length
 ·rw[Df g hn]
  refine⟨by rw[ah]; exact hxy.1,fun x hx=>?_⟩
  rcases aaO hx with a | rfl
  ·exact hxy.2 x a
  ·obtain⟨y,hy,hr⟩:=hxy.2 _ (ax hn)
   exact⟨y,hy,tr _ _ _ (hg _) hr⟩
 ·have e:xs.modify n g=xs:=by
   exact AM6
  rw[e]; exact hxy
theorem LeB.rfl' (x:DBuf):LeB x x:=⟨id,fun _=>sG _⟩
theorem LeD.rfl' (x:DDeed):LeD x x:=⟨id,fun _=>sG _⟩
theorem LeT.rfl' (x:DTask):LeT x x:=⟨id,fun _=>AOQ⟩
theorem LeB.tr {x y z:DBuf} (a:LeB x y) (b:LeB y z):LeB x z:=⟨fun h=>a.1 (b.1 h),fun k=>Int.le_trans (a.2 k) (b.2 k)⟩
theorem LeD.tr {x y z:DDeed} (a:LeD x y) (b:LeD y z):LeD x z:=⟨fun h=>a.1 (b.1 h),fun k=>Int.le_trans (a.2 k) (b.2 k)⟩
theorem uK (w:DWorld) (c:Int) (d:DDeed):LeD (J9 w c d) d:=⟨id,fun _=>sG _⟩
theorem AFe (w:DWorld) (d:DDeed):LeD (YO w d) d:=⟨id,fun _=>sG _⟩
theorem AFf (s a:Int) (d:DDeed):LeD (PY s a d) d:=⟨id,fun _=>sG _⟩
theorem AFg (i:Nat) (s:Int):∀ (l:List DSlot) (k:Int),D5 Et k (l.modify i (Tq s))=D5 Et k l:=by
 induction i with
 | zero=>intro l k; cases l<;>rfl
 | succ i ih=>intro l k; cases l with
  | nil=>rfl
  | cons x xs=>exact ih xs _
theorem ABp (i:Nat) (s:Int) (b:DBuf):LeB (Bh i s b) b:=by
 refine⟨fun h=>?_,fun k=>?_⟩
 ·rw[Fa,CE] at h ⊢
  refine⟨⟨by simpa [Bh,FU] using h.1.1,fun x hx=>?_⟩,h.2⟩
  obtain⟨y,hy,hr⟩:=(SY (R:=fun a c:DSlot=>Kv c→Kv a) (fun _=>id) (CG (fun _=>id) b.c0.l) (fun _ _ _ a c d=>a (c d)) (n:=i) (g:=Tq s) fun x h=>by rw[IY] at h ⊢; exact h).2 x hx
  exact hr (h.1.2 y hy)
 ·have e:F7 k (Bh i s b)=F7 k b:=AFg i s b.c0.l (k+3)
  show D5 J8 (F7 k (Bh i s b)) b.g≤D5 J8 (F7 k b) b.g
  rw[e]; exact sG _
theorem ADv (t:DTask):LeT BG t:=by
 refine⟨fun _=>?_,fun k=>?_⟩
 ·rw[DR]
  exact⟨⟨by simp[BG],fun x hx=>by simp[BG] at hx⟩,⟨by rw[Bg]; exact⟨by simp[Gj,DPred.v,Gh,G7,BG],by simp[BG,Gh,G7,DPred.l],fun x hx=>by simp[BG,Gh,G7,DPred.l] at hx⟩,by simp[BG,Gh]⟩,by simp[BG],⟨by simp[BG],fun x hx=>by simp[BG] at hx⟩⟩
 ·have h:=Ye k t
  have e:Dw k BG=k+3+8+1+2+6:=rfl
  have e2:Dw k t=OI k t:=rfl
  omega
def OutS (w w':DWorld):Prop:=w'.c0=w.c0∧w'.d=w.d∧w'.x=w.x∧Js LeB w'.b w.b∧w'.m.length=w.m.length∧w'.p.length=w.p.length∧Js LeT w'.tasks w.tasks∧Js LeD w'.deeds w.deeds
theorem OutS.self (w:DWorld):OutS w w:=⟨rfl,rfl,rfl,CG LeB.rfl' _,rfl,rfl,CG LeT.rfl' _,CG LeD.rfl' _⟩
theorem OutS.setT {w w1:DWorld} {n:Nat} {t:DTask} (h:OutS w w1) (e:w1.tasks=w.tasks) (hn:n<w.tasks.length) (hL:LeT t w.tasks[n]):OutS w (setT w1 n t):=by
 exact AMZ
theorem OutS.codeW {w w1:DWorld} {n:Nat} {t:DTask} {c:Int} (h:OutS w w1) (e:w1.tasks=w.tasks) (hn:n<w.tasks.length) (hL:LeT (Ed t 9) w.tasks[n]):OutS w (codeW w1 n t c):=by
 exact ALr
theorem AFh (l:List DDeed) (h s a:Int):Js LeD (Zi l h s a) l:=by
 unfold Zi
 split
 ·exact CG LeD.rfl' _
 ·exact SY LeD.rfl' (CG LeD.rfl' _) (fun _ _ _=>LeD.tr) (AFf _ _)
theorem AAN {α:Type} {c:Int→α→Int} (hc:∀ (k a:Int) (x:α),c (k+a) x=c k x+a) (hle:∀ (k:Int) (x:α),k≤c k x) {y:α} {B:Int} (h0:0≤B) (hy:∀ k,c k y≤k+B):∀ (l:List α) (i:Nat) (k:Int),D5 c k (l.set i y)≤D5 c k l+B
 | [],i,k=>by simp only[List.set_nil,D5]; omega
 | x::xs,0,k=>by
  simp only[List.set_cons_zero,D5]
  have h1:=KY hc xs (c k x) (c k y-c k x)
  have h2:=hy k
  have h3:=hle k x
  rw[show c k x+(c k y-c k x)=c k y from AOQ] at h1
  omega
 | x::xs,i+1,k=>by simp only[List.set_cons_succ,D5]; exact AAN hc hle h0 hy xs i _
theorem oC (k a:Int) (x:DSlot):Et (k+a) x=Et k x+a:=by
 exact AML
theorem ABq (k a:Int) (x:Int):J8 (k+a) x=J8 k x+a:=by unfold J8; omega
theorem ADw {t t':DTask} (he:t'.r=t.r) (hq:t'.q=t.q) (hl:t'.l = []) (hg:t'.got=t.got) (k:Int):Dw k t'≤Dw k t+5:=by
 have e:Dc k t'=Dc k t:=by unfold Dc F8 Am; rw[he,hq]
 have g:Aj k t'=Dc k t+2:=by unfold Aj; rw[hl,e]; rfl
 exact ALe
theorem ADx {w:DWorld} (h0:0≤Ip w 1048576):w.m.length+w.tasks.length≤1048576:=by
 rw[KG] at h0
 obtain⟨a0,b0,_⟩:=AZ h0
 have w0:=(NH w.c0 _ a0 AOQ).2
 obtain⟨a1,b1,_⟩:=AZ b0
 have w1:=(Oc w.d _ a1 AOQ).2
 obtain⟨a2,b2,_⟩:=AZ b1
 have w2:=(Dp w.b (fun x _=>KI x) a2 AOQ).2
 obtain⟨a3,b3,_⟩:=AZ b2
 have w3:F6 w.m.length (DW HY w.b (Ha w.d (Ee w.c0 1048576)))≤DW HY w.b (Ha w.d (Ee w.c0 1048576))-w.m.length:=by
  have h3:¬ DW HY w.b (Ha w.d (Ee w.c0 1048576))-w.m.length<0:=by intro h3; rw[zI h3] at a3; omega
  rw[kw h3]; omega
 obtain⟨a4,b4,_⟩:=AZ b3
 have w4:=(CB a4 AOQ).2
 obtain⟨a5,b5,_⟩:=AZ b4
 have w5:=(CB a5 AOQ).2
 obtain⟨a6,b6,_⟩:=AZ b5
 have w6:=n_ w.tasks (fun x _ l a b=>(JP x l a b).2) a6 AOQ
 omega
def LeP (x y:DBuf):Prop:=(E8 y→E8 x)∧∀ k,H_ k x≤H_ k y+67109888
theorem LeP.rfl' (x:DBuf):LeP x x:=⟨id,fun _=>AOQ⟩
theorem LeP.of {x y:DBuf} (h:LeB x y):LeP x y:=⟨h.1,fun k=>by have:=h.2 k; omega⟩
theorem Wy {α:Type} {R:α→α→Prop} (h:∀ x,R x x) {xs:List α} {n:Nat} {g:α→α} (hg:∀ hn:n<xs.length,R (g xs[n]) xs[n]):Js R (xs.modify n g) xs:=by
 by_cases hn:n<xs.length
 ·rw[Df g hn]; exact OA h hn (hg hn)
 ·have e:xs.modify n g=xs:=by
   exact AM6
  rw[e]; exact CG h _
theorem ADy {b:DBuf} {c:DChunk} (hf:EI b.c0→EI c) (hc:∀ k,D5 Et k c.l≤D5 Et k b.c0.l+67109888):LeP (Iw c b) b:=by
 refine⟨fun h=>?_,fun k=>?_⟩
 ·rw[Fa] at h ⊢
  exact⟨hf h.1,h.2⟩
 ·have e1:F7 k (Iw c b)=D5 Et (k+3) c.l:=rfl
  have e2:F7 k b=D5 Et (k+3) b.c0.l:=rfl
  have h1:=hc (k+3)
  have h2:=KY ABq b.g (F7 k b) (F7 k (Iw c b)-F7 k b)
  rw[show F7 k b+(F7 k (Iw c b)-F7 k b)=F7 k (Iw c b) from AOQ] at h2
  show D5 J8 (F7 k (Iw c b)) b.g≤D5 J8 (F7 k b) b.g+67109888
  omega
theorem AFi (b:DBuf):LeP (Iw (MM b.c0) b) b:=by
 have e:(MM b.c0).l=b.c0.l:=by unfold MM; split<;>rfl
 refine ADy (fun h=>?_) fun k=>?_
 ·rw[CE] at h ⊢; rw[e]; exact h
 ·rw[e]; omega
theorem ADz (k:Int) (x:DVal):EF k x≤k+64:=by unfold EF; omega
theorem AHa (b:DBuf) (i:Int) {l:List DVal} (hl:fitS Gj l):LeP (Iw (iE b.c0 i l) b) b:=by
 unfold iE
 split
 ·refine ADy (fun h=>?_) fun k=>?_
  ·rw[CE] at h ⊢
   refine⟨by simpa using h.1,fun x hx=>?_⟩
   rcases aaO hx with g | rfl
   ·exact h.2 x g
   ·rw[IY]; exact hl
  ·refine AAN oC Mc AOQ (fun k=>?_) _ _ _
   have h1:=hl.1
   have h2:Et k ⟨-1,l⟩≤k+1+l.length*64:=F9 (c:=EF) 64 AOQ l (fun x _ k=>ADz k x) (k+1)
   omega
 ·exact ADy id fun k=>AOQ
theorem AFj (s:Int) (b:DBuf):LeP (Oz s b) b:=by
 obtain⟨_,hn⟩:=AFc s
 have hz:∀ x∈(Oy s).l,x=⟨0,[]⟩:=fun x hx=>(List.mem_replicate.1 hx).2
 have hlen:(Oy s).l.length=yM s:=bU ..
 refine⟨fun _=>?_,fun k=>?_⟩
 ·rw[Fa,CE]
  refine⟨⟨by show (Oy s).l.length≤_; omega,fun x hx=>?_⟩,by simp[Oz]⟩
  rw[hz x hx,IY]
  exact⟨AOR,fun x hx=>by simp at hx⟩
 ·have h1:H_ k (Oz s b)≤k+3+(Oy s).l.length*64:=F9 (c:=Et) 64 AOQ (Oy s).l (fun x hx k=>by rw[hz x hx]; show k+1≤_; omega) (k+3)
  have h2:=NI k b
  omega
theorem AD0 (g:Int) (b:DBuf):LeP (gone g) b:=by
 refine⟨fun _=>?_,fun k=>?_⟩
 ·rw[Fa,CE]
  exact⟨⟨by simp[gone],fun x hx=>by simp[gone] at hx⟩,by simp[gone]⟩
 ·have h1:H_ k (gone g)=k+3:=rfl
  have h2:=NI k b
  omega
theorem AFk (l:List DBuf) (i:Int):Js LeP (Oo l i) l:=by
 unfold Oo
 split
 ·rename_i h1
  split
  ·exact OA LeP.rfl' h1.2 (AD0 _ _)
  ·exact CG LeP.rfl' _
 ·exact CG LeP.rfl' _
theorem AFl (l:List DBuf) (s:Int):Js LeP (QI l s) l:=by
 unfold QI
 split
 ·exact CG LeP.rfl' _
 ·exact Wy LeP.rfl' fun _=>AFj _ _
theorem AFm (w:DWorld) (hf:Aa w) (hb:∀ x∈w.b,∀ k,H_ k x≤k+1073741824) (ht:∀ x∈w.tasks,∀ k,Dw k x≤k+1073741824) (hd:∀ x∈w.deeds,∀ k,Gl k x≤k+1073741824):Gv 1 w≤4000000000000000000:=by
 rw[Ar,KJ,IG] at hf
 obtain⟨f1,f2,f3,f4,f5,f6,f7,f8⟩:=hf
 have f3:=f3.1
 have f7:=f7.1
 have f8:=f8.1
 have g1:Hm 1 w≤1+w.c0.cols.length*64:=F9 (c:=J8) 64 AOQ w.c0.cols (fun x _ k=>PM k x) 1
 have g2:Ho 1 w≤Hm 1 w+w.d.l.length*64:=F9 (c:=JD) 64 AOQ w.d.l (fun x _ k=>ZM k x) _
 have g3:Hq 1 w≤Ho 1 w+w.b.length*1073741824:=F9 (c:=H_) 1073741824 AOQ w.b hb _
 have g4:Hr 1 w≤Hq 1 w+w.m.length*64:=F9 (c:=J8) 64 AOQ w.m (fun x _ k=>PM k x) _
 have g5:Ht 1 w≤Hr 1 w+w.x.length*64:=F9 (c:=I5) 64 AOQ w.x (fun x _ k=>jQ k x) _
 have g6:Hu 1 w≤Ht 1 w+w.p.length*64:=F9 (c:=J8) 64 AOQ w.p (fun x _ k=>PM k x) _
 have g7:Hw 1 w≤Hu 1 w+w.tasks.length*1073741824:=F9 (c:=Dw) 1073741824 AOQ w.tasks ht _
 have g8:MJ 1 w≤Hw 1 w+w.deeds.length*1073741824:=F9 (c:=Gl) 1073741824 AOQ w.deeds hd _
 show MJ 1 w≤_
 omega
def OutP (w w':DWorld):Prop:=w'.c0=w.c0∧w'.x=w.x∧w'.d.l.length≤1048576∧Js LeP w'.b w.b∧w'.m.length≤1048576∧w'.p.length=w.p.length∧Js LeT w'.tasks w.tasks∧Js LeD w'.deeds w.deeds
theorem ABr {w w':DWorld} (h00:0≤Ip w 1048576) (h:OutP w w'):Aa w'∧Gv 1 w'≤4000000000000000000:=by
 obtain⟨g1,g2,_,g4⟩:=ADs h00
 have g3:=ADu h00
 have hf:=(QY w 1048576 h00 AOQ).1
 rw[Ar] at hf
 obtain⟨f1,f2,f3,f4,f5,f6,f7,f8⟩:=hf
 obtain⟨a1,a3,a2,a4,a5,a6,a7,a8⟩:=h
 have hx:Aa w':=by
  rw[Ar,a1,a3,a6]
  exact⟨f1,by rw[IG]; exact a2,⟨by rw[a4.1]; exact f3.1,fun x hx=>by obtain⟨y,hy,hr⟩:=a4.2 x hx; exact hr.1 (f3.2 y hy)⟩,a5,f5,f6,⟨by rw[a7.1]; exact f7.1,fun x hx=>by obtain⟨y,hy,hr⟩:=a7.2 x hx; exact hr.1 (f7.2 y hy)⟩,⟨by rw[a8.1]; exact f8.1,fun x hx=>by obtain⟨y,hy,hr⟩:=a8.2 x hx; exact hr.1 (f8.2 y hy)⟩⟩
 refine⟨hx,AFm _ hx (fun x hx k=>?_) (fun x hx k=>?_) fun x hx k=>?_⟩
 ·obtain⟨y,hy,hr⟩:=a4.2 x hx; have:=hr.2 k; have:=g2 y hy k; omega
 ·obtain⟨y,hy,hr⟩:=a7.2 x hx; have:=hr.2 k; have:=g3 y hy k; omega
 ·obtain⟨y,hy,hr⟩:=a8.2 x hx; have:=hr.2 k; have:=g4 y hy k; omega
theorem OutP.setT {w w1:DWorld} {n:Nat} {t:DTask} (h:OutP w w1) (e:w1.tasks=w.tasks) (hn:n<w.tasks.length) (hL:LeT t w.tasks[n]):OutP w (setT w1 n t):=by
 exact AMZ
theorem OutP.codeW {w w1:DWorld} {n:Nat} {t:DTask} {c:Int} (h:OutP w w1) (e:w1.tasks=w.tasks) (hn:n<w.tasks.length) (hL:LeT (Ed t 9) w.tasks[n]):OutP w (codeW w1 n t c):=by
 exact ALr
theorem OutP.pool {w:DWorld} {b:List DBuf} (h:OutP w w) (hb:Js LeP b w.b):OutP w (Di w b):=⟨rfl,rfl,h.2.2.1,hb,h.2.2.2.2.1,rfl,CG LeT.rfl' _,CG LeD.rfl' _⟩
theorem ABs {w:DWorld} {n:Nat} {t:DTask} (hf:Aa w) (hm:w.m.length+4≤1048576) (hs4:w.c0.slots≤4) (hn:n<w.tasks.length) (ht:w.tasks[n]=t):OutP w (Dt w n t):=by
 subst ht
 rw[Ar,IG] at hf
 obtain⟨_,f2,f3,f4,_,_,f7,_⟩:=hf
 have hs:OutP w w:=⟨rfl,rfl,f2,CG LeP.rfl' _,f4,rfl,CG LeT.rfl' _,CG LeD.rfl' _⟩
 have hpc:∀ pc,LeT (Ed w.tasks[n] pc) w.tasks[n]:=fun _=>⟨id,fun _=>APa⟩
 have hck:∀ pc,LeT (Ag w w.tasks[n] pc) w.tasks[n]:=fun _=>⟨id,fun _=>APa⟩
 have hre:∀ i,LeT (Cj w.tasks[n] i) w.tasks[n]:=fun _=>⟨id,fun _=>APa⟩
 have how:∀ o pc,LeT (BP w.tasks[n] o pc) w.tasks[n]:=fun _ _=>⟨id,fun _=>APa⟩
 have hv1:∀ r pc,LeT (Be w w.tasks[n] [r] pc) w.tasks[n]:=fun r pc=>⟨fun h=>by rw[DR] at h ⊢; exact⟨h.1,h.2.1,by simp[Be],h.2.2.2⟩,ADt rfl rfl rfl rfl⟩
 have hv0:∀ pc,LeT (Be w w.tasks[n] [] pc) w.tasks[n]:=fun pc=>⟨fun h=>by rw[DR] at h ⊢; exact⟨h.1,h.2.1,by simp[Be],h.2.2.2⟩,ADw rfl rfl rfl rfl⟩
 have hch:∀ (r:DRef) (h:r.buf.toNat<w.b.length),LZ w r=(w.b[r.buf.toNat]'h).c0:=fun r h=>by simp[LZ,h]
 have hset:∀ (r:DRef) (c:DChunk),(∀ h:r.buf.toNat<w.b.length,LeP (Iw c (w.b[r.buf.toNat]'h)) (w.b[r.buf.toNat]'h))→OutP w (Dn w r c):=fun r c h=>⟨rfl,rfl,f2,Wy LeP.rfl' h,f4,rfl,CG LeT.rfl' _,CG LeD.rfl' _⟩
 have hrow:fitS Gj w.tasks[n].r:=by
  have:=f7.2 _ (ax hn)
  rw[DR] at this
  exact this.1
 have hgv:=hs.pool (AFk w.b (w.tasks[n].own-1))
 unfold Dt
 repeat' split
 ·exact⟨rfl,rfl,f2,CG LeP.rfl' _,f4,ah ..,OA LeT.rfl' hn (hpc _),CG LeD.rfl' _⟩
 ·exact hs.setT rfl hn (hv1 _ _)
 ·exact hs.setT rfl hn (hv0 _)
 ·have h1:=hset (l0 w.tasks[n]) (MM (LZ w (l0 w.tasks[n]))) fun h=>by rw[hch _ h]; exact AFi _
  obtain⟨a1,a2,a3,a4,a5,a6,a7,a8⟩:=h1
  exact OutP.setT ⟨a1,a2,a3,a4,a5,a6,a7,SY LeD.rfl' (CG LeD.rfl' _) (fun _ _ _=>LeD.tr) fun d=>⟨id,fun _=>sG _⟩⟩ rfl hn (hre _)
 ·exact hs.setT rfl hn (hpc _)
 ·exact(hset (l0 w.tasks[n]) _ fun h=>by rw[hch _ h]; exact AHa _ _ hrow).setT rfl hn (hpc _)
 ·exact hs.setT rfl hn (hck _)
 ·exact hs.codeW rfl hn (hpc _)
 ·exact(hs.pool (AFl _ _)).setT rfl hn (how _ _)
 ·refine OutP.setT ?_ ?_ hn (hpc _)
  ·unfold E_
   split
   ·exact⟨rfl,rfl,f2,Wy LeP.rfl' fun h=>LeP.of (ABp _ _ _),f4,rfl,CG LeT.rfl' _,AFh _ _ _ _⟩
   ·exact hs
  ·unfold E_
   split<;>rfl
 ·exact hgv.setT rfl hn (how _ _)
 ·rename_i h
  have h8:(w.d.l.length:Int)+1≤8:=by
   unfold UG at h
   simp only[Il,IW,ay,aaV,aaA,bu,aI,aW] at h
   omega
  exact OutP.setT ⟨rfl,rfl,by simp only[A_,IW,bu,aI,aW]; omega,CG LeP.rfl' _,by simp only[A_,bu,bU]; omega,rfl,CG LeT.rfl' _,CG LeD.rfl' _⟩ rfl hn (how _ _)
 ·exact hgv.codeW rfl hn (how _ _)
 ·exact⟨rfl,rfl,f2,CG LeP.rfl' _,f4,ah ..,OA LeT.rfl' hn (ADv _),SY LeD.rfl' (CG LeD.rfl' _) (fun _ _ _=>LeD.tr) (AFe _)⟩
noncomputable def AAO (w:DWorld) (k:Int):Bool:=MC w k 1
theorem uM (w:DWorld) (k:Int) (h00:0≤Ip w 1048576):Aa (Q4 w k)∧Gv 1 (Q4 w k)≤4000000000000000000:=by
 have hf:=(QY w 1048576 h00 AOQ).1
 refine ABr h00 ?_
 unfold Q4
 split
 ·rename_i h
  simp only[MC,WT,ay] at h
  obtain⟨n,rfl,hn,_,A⟩:=mQ hf h.1 h.2.1 h.2.2.1 AOU (.inr trivial)
  have:=ADx h00
  have:=A.ht
  exact ABs hf AOQ (Q5 h.1).2 A.lt A.at_
 ·rw[Ar,IG] at hf
  exact⟨rfl,rfl,hf.2.1,CG LeP.rfl' _,hf.2.2.2.1,rfl,CG LeT.rfl' _,CG LeD.rfl' _⟩
end Go.Proofs.YtnoldekcdlaahaaGreat
