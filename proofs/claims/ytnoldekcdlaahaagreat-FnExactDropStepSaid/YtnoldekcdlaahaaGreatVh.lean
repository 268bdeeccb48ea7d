/- A part. -/
import Derived.Test.YtnoldekcdlaahaaGreatCx
import Derived.Test.YtnoldekcdlaahaaGreatBg
import Derived.Test.YtnoldekcdlaahaaGreatVm
import Derived.Test.YtnoldekcdlaahaaGreatVf
set_option linter.unusedSimpArgs false
set_option linter.unusedVariables false
set_option maxHeartbeats 4000000
set_option maxRecDepth 10000
open Go.Proofs.Tryz
namespace Go.Proofs.YtnoldekcdlaahaaGreat
open Go.Vm
theorem XA {α:Type} {c:Int→α→Int} (hc:∀ (k a:Int) (x:α),c (k+a) x=c k x+a):∀ (l:List α) (k a:Int),ER c (k+a) l=ER c k l+a
 | [],k,a=>rfl
 | x::xs,k,a=>by simp only[ER]; rw[hc,XA hc xs]
theorem uQ (k a:Int) (x:DRow):Gy (k+a) x=Gy k x+a:=by
 have h:=XA (c:=Et) (fun k a x=>by unfold Et; omega) x.l (k+1) a
 show ER Et (k+a+1) x.l=ER Et (k+1) x.l+a
 rw[← h,show k+a+1=k+1+a from AOh]
theorem ADj {t t':DTask} {r:DRef} (he:t'.r=t.r) (hq:t'.q=t.q) (hl:t'.l = [r]) (hg:t'.got=t.got) (k:Int):EN k t'≤EN k t+5:=by
 have e:EM k t'=EM k t:=by unfold EM Gf Ak; rw[he,hq]
 have g:BC k t'=EM k t+2+5:=by unfold BC; rw[hl,e]; rfl
 have g2:EM k t+2≤BC k t:=Es NW _ _
 have g3:=XA uQ t.got (BC k t+6) (BC k t'-BC k t)
 show ER Gy (BC k t'+6) t'.got≤ER Gy (BC k t+6) t.got+5
 rw[hg,show BC k t'+6=BC k t+6+(BC k t'-BC k t) from AOh,g3]
 omega
theorem uS {α:Type} {f:α→Int→Int}:∀ (xs:List α) (_:∀ x∈xs,∀ l,0≤f x l→l≤1048576→f x l≤l) (l:Int),0≤Xt f xs l→l≤1048576→∀ x∈xs,∃ l',l'≤l∧0≤f x l'
 | [],_,_,_,_,_,h=>AO_
 | y::ys,hf,l,h0,hl,x,hx=>by
  simp only[Xt] at h0
  obtain⟨h1,h2,h3⟩:=AZ h0
  have h4:=hf y AOi l h1 hl
  rcases dh.1 hx with rfl | hx
  ·exact⟨l,xZ _,h1⟩
  ·obtain⟨l',a,b⟩:=uS ys (fun z hz=>hf z (by simp[hz])) _ h2 AOh x hx
   exact⟨l',AOh,b⟩
theorem AB1 {xs:List DTask} {l:Int} (h0:0≤DW I5 xs l) (hl:l≤1048576):∀ x∈xs,∀ k,EN k x≤k+67108864:=fun x hx k=>by
 unfold DW at h0
 obtain⟨h1,h2,_⟩:=AZ h0
 have hp:0<xs.length:=List.length_pos_of_mem hx
 have h3:Fv xs.length l≤1048575:=by
  unfold Fv
  split<;>omega
 obtain⟨l',g1,g2⟩:=uS xs (fun x _ l a b=>(KW x l a b).2) _ h2 AOh x hx
 have:=Wj x k l' g2 AOh
 omega
theorem ADk {w:DWorld} (h0:0≤JP w 1048576):∀ x∈w.tasks,∀ k,EN k x≤k+67108864:=by
 rw[NT] at h0
 obtain⟨a0,b0,_⟩:=AZ h0
 have w0:=(Pq w.c0 _ a0 AOh).2
 obtain⟨a1,b1,_⟩:=AZ b0
 have w1:=(Sm w.d _ a1 AOh).2
 obtain⟨a2,b2,_⟩:=AZ b1
 have w2:=(Du w.b (fun x _=>NF x) a2 AOh).2
 obtain⟨a3,b3,_⟩:=AZ b2
 have w3:=(CG a3 AOh).2
 obtain⟨a4,b4,_⟩:=AZ b3
 have w4:=(CG a4 AOh).2
 obtain⟨a5,b5,_⟩:=AZ b4
 have w5:=(CG a5 AOh).2
 obtain⟨a6,b6,_⟩:=AZ b5
 exact AB1 a6 AOh
def LeB (x y:DBuf):Prop:=(IE y→IE x)∧∀ k,JG k x≤JG k y
def LeD (x y:DDeed):Prop:=(Fj y→Fj x)∧∀ k,Gg k x≤Gg k y
def LeT (x y:DTask):Prop:=(GG y→GG x)∧∀ k,EN k x≤EN k y+5
def TZ {α:Type} (R:α→α→Prop) (xs ys:List α):Prop:=xs.length=ys.length∧∀ x∈xs,∃ y∈ys,R x y
theorem FK {α:Type} {R:α→α→Prop} (h:∀ x,R x x) (xs:List α):TZ R xs xs:=⟨rfl,fun x hx=>⟨x,hx,h x⟩⟩
theorem VO {α:Type} {R:α→α→Prop} (h:∀ x,R x x) {xs:List α} {n:Nat} {y:α} (hn:n<xs.length) (hy:R y xs[n]):TZ R (xs.set n y) xs:=⟨ag ..,fun x hx=>by
 rcases aaW hx with g | rfl
 ·exact⟨x,g,h x⟩
 ·exact⟨_,ax hn,hy⟩⟩
theorem VP {α:Type} {R:α→α→Prop} (h:∀ x,R x x) {xs ys:List α} (hxy:TZ R xs ys) (tr:∀ x y z,R x y→R y z→R x z) {n:Nat} {g:α→α} (hg:∀ x,R (g x) x):TZ R (xs.modify n g) ys:=by
 by_cases hn:n<xs.length
 ·rw[Dp g hn]
  refine⟨by rw[ag]; exact hxy.1,fun x hx=>?_⟩
  rcases aaW hx with a | rfl
  ·exact hxy.2 x a
  ·obtain⟨y,hy,hr⟩:=hxy.2 _ (ax hn)
   exact⟨y,hy,tr _ _ _ (hg _) hr⟩
 ·have e:xs.modify n g=xs:=by
   apply abp
   intro j
   rw[List.getElem?_modify]
   split
   ·rename_i e; subst e
    rw[uU AOh]; rfl
   ·simp
  rw[e]; exact hxy
theorem LeB.rfl' (x:DBuf):LeB x x:=⟨id,fun _=>xZ _⟩
theorem LeD.rfl' (x:DDeed):LeD x x:=⟨id,fun _=>xZ _⟩
theorem LeT.rfl' (x:DTask):LeT x x:=⟨id,fun _=>AOh⟩
theorem LeB.tr {x y z:DBuf} (a:LeB x y) (b:LeB y z):LeB x z:=⟨fun h=>a.1 (b.1 h),fun k=>abB (a.2 k) (b.2 k)⟩
theorem LeD.tr {x y z:DDeed} (a:LeD x y) (b:LeD y z):LeD x z:=⟨fun h=>a.1 (b.1 h),fun k=>abB (a.2 k) (b.2 k)⟩
theorem ADl (w:DWorld) (c:Int) (d:DDeed):LeD (Cf w c d) d:=⟨id,fun _=>xZ _⟩
theorem AFQ (w:DWorld) (d:DDeed):LeD (Ry w d) d:=⟨id,fun _=>xZ _⟩
theorem AFR (s a:Int) (d:DDeed):LeD (IW s a d) d:=⟨id,fun _=>xZ _⟩
theorem AFS (i:Nat) (s:Int):∀ (l:List DSlot) (k:Int),ER Hq k (l.modify i (UL s))=ER Hq k l:=by
 induction i with
 | zero=>intro l k; cases l<;>rfl
 | succ i ih=>intro l k; cases l with
  | nil=>rfl
  | cons x xs=>exact ih xs _
theorem AB2 (i:Nat) (s:Int) (b:DBuf):LeB (D6 i s b) b:=by
 refine⟨fun h=>?_,fun k=>?_⟩
 ·rw[H9,EE] at h ⊢
  refine⟨⟨by simpa [D6,I8] using h.1.1,fun x hx=>?_⟩,h.2⟩
  obtain⟨y,hy,hr⟩:=(VP (R:=fun a c:DSlot=>K_ c→K_ a) (fun _=>id) (FK (fun _=>id) b.c0.l) (fun _ _ _ a c d=>a (c d)) (n:=i) (g:=UL s) fun x h=>by rw[KU] at h ⊢; exact h).2 x hx
  exact hr (h.1.2 y hy)
 ·have e:Js k (D6 i s b)=Js k b:=AFS i s b.c0.l (k+3)
  show ER Lu (Js k (D6 i s b)) b.g≤ER Lu (Js k b) b.g
  rw[e]; exact xZ _
theorem ADm (t:DTask):LeT CX t:=by
 refine⟨fun _=>?_,fun k=>?_⟩
 ·rw[EC]
  exact⟨⟨by simp[CX],fun x hx=>by simp[CX] at hx⟩,⟨by rw[BP]; exact⟨by simp[Gh,DPred.v,IU,KJ,CX],by simp[CX,IU,KJ,DPred.l],fun x hx=>by simp[CX,IU,KJ,DPred.l] at hx⟩,by simp[CX,IU]⟩,by simp[CX],⟨by simp[CX],fun x hx=>by simp[CX] at hx⟩⟩
 ·have h:=Y8 k t
  have e:EN k CX=k+3+8+1+2+6:=rfl
  have e2:EN k t=Og k t:=rfl
  omega
def OutS (w w':DWorld):Prop:=w'.c0=w.c0∧w'.d=w.d∧w'.x=w.x∧TZ LeB w'.b w.b∧w'.m.length=w.m.length∧w'.p.length=w.p.length∧TZ LeT w'.tasks w.tasks∧TZ LeD w'.deeds w.deeds
theorem OutS.self (w:DWorld):OutS w w:=⟨rfl,rfl,rfl,FK LeB.rfl' _,rfl,rfl,FK LeT.rfl' _,FK LeD.rfl' _⟩
theorem ADn {w w':DWorld} (h00:0≤JP w 1048576) (h:OutS w w'):AX w'∧Gn 1 w'≤4000000000000000000:=by
 obtain⟨g1,g2,_,g4⟩:=ADO h00
 have g3:=ADk h00
 have hf:=(OB w 1048576 h00 AOh).1
 rw[A8] at hf
 obtain⟨f1,f2,f3,f4,f5,f6,f7,f8⟩:=hf
 obtain⟨a1,a2,a3,a4,a5,a6,a7,a8⟩:=h
 have hx:AX w':=by
  rw[A8,a1,a2,a3,a5,a6]
  exact⟨f1,f2,⟨by rw[a4.1]; exact f3.1,fun x hx=>by obtain⟨y,hy,hr⟩:=a4.2 x hx; exact hr.1 (f3.2 y hy)⟩,f4,f5,f6,⟨by rw[a7.1]; exact f7.1,fun x hx=>by obtain⟨y,hy,hr⟩:=a7.2 x hx; exact hr.1 (f7.2 y hy)⟩,⟨by rw[a8.1]; exact f8.1,fun x hx=>by obtain⟨y,hy,hr⟩:=a8.2 x hx; exact hr.1 (f8.2 y hy)⟩⟩
 refine⟨hx,AHA _ hx (fun x hx k=>?_) (fun x hx k=>?_) fun x hx k=>?_⟩
 ·obtain⟨y,hy,hr⟩:=a4.2 x hx; exact abB (hr.2 k) (g2 y hy k)
 ·obtain⟨y,hy,hr⟩:=a7.2 x hx; have:=hr.2 k; have:=g3 y hy k; omega
 ·obtain⟨y,hy,hr⟩:=a8.2 x hx; exact abB (hr.2 k) (g4 y hy k)
theorem OutS.setT {w w1:DWorld} {n:Nat} {t:DTask} (h:OutS w w1) (e:w1.tasks=w.tasks) (hn:n<w.tasks.length) (hL:LeT t w.tasks[n]):OutS w (setT w1 n t):=by
 obtain⟨a1,a2,a3,a4,a5,a6,a7,a8⟩:=h
 exact⟨a1,a2,a3,a4,a5,a6,by show TZ LeT (w1.tasks.set n t) _; rw[e]; exact VO LeT.rfl' hn hL,a8⟩
theorem OutS.codeW {w w1:DWorld} {n:Nat} {t:DTask} {c:Int} (h:OutS w w1) (e:w1.tasks=w.tasks) (hn:n<w.tasks.length) (hL:LeT (DV t 9) w.tasks[n]):OutS w (codeW w1 n t c):=by
 obtain⟨a1,a2,a3,a4,a5,a6,a7,a8⟩:=h
 exact⟨a1,a2,a3,a4,a5,a6,by show TZ LeT (w1.tasks.set n _) _; rw[e]; exact VO LeT.rfl' hn hL,VP LeD.rfl' a8 (fun _ _ _=>LeD.tr) (ADl _ _)⟩
theorem AAl (l:List DDeed) (h s a:Int):TZ LeD (O1 l h s a) l:=by
 unfold O1
 split
 ·exact FK LeD.rfl' _
 ·exact VP LeD.rfl' (FK LeD.rfl' _) (fun _ _ _=>LeD.tr) (AFR _ _)
theorem oH (w:DWorld) (r:DRef) (id s a:Int):OutS w (Dw w r id s a)∧(Dw w r id s a).tasks=w.tasks:=by
 unfold Dw
 split
 ·exact⟨⟨rfl,rfl,rfl,VP LeB.rfl' (FK LeB.rfl' _) (fun _ _ _=>LeB.tr) (AB2 _ _),rfl,rfl,FK LeT.rfl' _,AAl _ _ _ _⟩,rfl⟩
 ·exact⟨OutS.self w,rfl⟩
theorem oI (w:DWorld) (id s a:Int):OutS w (CP w id s a)∧(CP w id s a).tasks=w.tasks:=by
 unfold CP
 split
 ·exact⟨⟨rfl,rfl,rfl,FK LeB.rfl' _,ag ..,rfl,FK LeT.rfl' _,AAl _ _ _ _⟩,rfl⟩
 ·exact⟨OutS.self w,rfl⟩
theorem yj {w:DWorld} {n:Nat} {t:DTask} (hn:n<w.tasks.length) (ht:w.tasks[n]=t):OutS w (CQ w n t):=by
 subst ht
 have hs:=OutS.self w
 have hpc:∀ pc,LeT (DV w.tasks[n] pc) w.tasks[n]:=fun _=>⟨id,fun _=>AP3⟩
 have hck:∀ pc,LeT (Ag w w.tasks[n] pc) w.tasks[n]:=fun _=>⟨id,fun _=>AP3⟩
 have hwo:∀ pc,LeT (DU w.tasks[n] pc) w.tasks[n]:=fun _=>⟨id,fun _=>AP3⟩
 have hl:∀ r pc,LeT (lT w.tasks[n] [r] pc) w.tasks[n]:=fun r pc=>⟨fun h=>by rw[EC] at h ⊢; exact⟨h.1,h.2.1,by simp[lT],h.2.2.2⟩,ADj rfl rfl rfl rfl⟩
 obtain⟨s1,s2⟩:=oH w (l0 w.tasks[n]) w.tasks[n].id w.tasks[n].s w.tasks[n].at0
 obtain⟨u1,u2⟩:=oI w w.tasks[n].id w.tasks[n].s w.tasks[n].at0
 unfold CQ
 repeat' split
 ·exact⟨rfl,rfl,rfl,FK LeB.rfl' _,rfl,ag ..,VO LeT.rfl' hn (hpc _),FK LeD.rfl' _⟩
 ·exact hs.codeW rfl hn (hpc _)
 ·exact hs.setT rfl hn (hl _ _)
 ·exact hs.codeW rfl hn (hpc _)
 ·exact hs.setT rfl hn (hpc _)
 ·exact hs.setT rfl hn (hpc _)
 ·exact hs.setT rfl hn (hck _)
 ·exact s1.setT s2 hn (hpc _)
 ·exact⟨rfl,rfl,rfl,FK LeB.rfl' _,ag ..,rfl,VO LeT.rfl' hn (hwo _),FK LeD.rfl' _⟩
 ·exact hs.setT rfl hn (hpc _)
 ·exact hs.codeW rfl hn (hpc _)
 ·exact hs.setT rfl hn (hck _)
 ·exact u1.setT u2 hn (hpc _)
 ·exact u1.codeW u2 hn (hpc _)
 ·exact⟨rfl,rfl,rfl,FK LeB.rfl' _,rfl,ag ..,VO LeT.rfl' hn (ADm _),VP LeD.rfl' (FK LeD.rfl' _) (fun _ _ _=>LeD.tr) (AFQ _)⟩
noncomputable def oJ (w:DWorld) (k:Int):Bool:=NR w k 2
theorem oK (w:DWorld) (k:Int) (h00:0≤JP w 1048576):AX (MK w k)∧Gn 1 (MK w k)≤4000000000000000000:=by
 refine ADn h00 ?_
 have hf:=(OB w 1048576 h00 AOh).1
 unfold MK
 split
 ·rename_i h
  simp only[NR,Wi,ay] at h
  obtain⟨n,rfl,hn,_,A⟩:=mO hf h.1 h.2.1 h.2.2.1 AOq (.inr trivial)
  exact yj A.lt A.at_
 ·exact OutS.self w
theorem yl (w:DWorld) (k:Int) (hf:AX w):Ctr prog 8 [.agg w.c,.c (.v (.int .i64 (k)))] [.agg (MK w k).o,.val (.c (.v (.bool (oJ w k))))]:=dN w k hf
theorem yu (w:DWorld) (k:Int) (hf:AX w):Ctr prog 10 [.agg w.c,.c (.v (.int .i64 (k)))] [.agg (MK w k).o,.val (.c (.v (.bool (oJ w k))))]:=dM w k hf
theorem XB (w:DWorld) (k:Int):Ctr prog 3 [.agg w.c,.c (.v (.int .i64 (k)))] [.val (.c (.v (.bool (true))))]:=by
 refine CM call3 func3 ntmps3 results3 fun hw=>?_
 simp only[go_sem]
 refine CW (U1 w 1048576 AOh) fun _=>?_
 refine AOb (fun h=>?_) fun h=>?_
 ·exact AIk
 have h00:0≤JP w 1048576:=AOs
 obtain⟨hf,hle⟩:=OB w 1048576 h00 AOh
 obtain⟨hf2,hb2⟩:=oK w k h00
 have hs:Ctr prog 8 [.agg w.c,.c (.v (.int .i64 (k)))] [.val (.agg (MK w k).c),.val (.c (.v (.bool (oJ w k))))]:=(yl w k hf).fz2 (MK w k).o_er
 have hi:=yu w k hf
 generalize MK w k=X at *
 generalize oJ w k=b at *
 have hb1:=xm w 1 1048576 h00 AOh
 have hl1:=Zk 1 w
 have hl2:=Zk 1 X
 have hn1:decide (Gn 1 w<0)=false:=AOj
 have hn2:decide (Gn 1 X<0)=false:=AOj
 have e0:∀ b:Bool,(!(b==b))=false:=fun b=>by cases b<;>rfl
 simp only[go_sem]
 first | refine CW (ES w hf) fun _=>?_ | refine CZ (ES w hf) ?_ | (refine ABU ?_; simp only[go_sem]; refine CZ (ES w hf) ?_)
 simp only[go_sem]
 first | refine CW (hs) fun _=>?_ | refine CZ (hs) ?_ | (refine ABU ?_; simp only[go_sem]; refine CZ (hs) ?_)
 simp only[go_sem]
 refine CW (Zt w hf) fun _=>?_
 simp only[go_sem]
 first | refine ACw (args:=[.agg w.c,.c (.v (.int .i64 (k)))]) [.agg X.o,.val (.c (.v (.bool (b))))] (by simp only[DX,JE,Ai,GH,BZ,Ci,Ac,L8]; first | rfl | simp only[go_sem]) (by simp only[bC,Ji,UM,bU,aS]) hi fun _=>?_ | (refine ABU ?_; simp only[go_sem]; refine AC2 (args:=[.agg w.c,.c (.v (.int .i64 (k)))]) [.agg X.o,.val (.c (.v (.bool (b))))] (by simp only[DX,JE,Ai,GH,BZ,Ci,Ac,L8]; first | rfl | simp only[go_sem]) (by simp only[bC,Ji,UM,bU,aS]) hi ?_)
 simp only[go_sem]
 refine ACw (args:=[.agg X.c,.agg X.c]) _ APL rfl (Ir _) fun _=>?_
 simp only[go_sem,e0]
 refine AAm ?_
 simp only[go_sem]
 refine CY (ES w hf) ?_
 simp only[go_sem]
 refine AC3 (args:=[.agg w.c,.agg w.c]) _ APL rfl (Ir w) ?_
 simp only[go_sem]
 refine ADr true (zs:=[.ref 2,.v (.int .i64 w.c0.slots),.v (.int .i64 w.c0.bufs),.v (.int .i64 w.time),.v (.int .i64 w.t),.v (.int .i64 w.e),.v (.int .i64 w.d.ver),.ref 3,.ref 4,.ref 5,.ref 6,.ref 7,.ref 8,.ref 9])
  (cl:=[.ow 3 1 (w.c0.cols.map intC),.v (.int .i64 w.c0.slots),.v (.int .i64 w.c0.bufs),.v (.int .i64 w.time),.v (.int .i64 w.t),.v (.int .i64 w.e),.v (.int .i64 w.d.ver),.ow 133 5 (w.d.l.map DRef.c),.ow 142 5 (w.b.map DBuf.o),.ow 3 1 (w.m.map intC),.ow 145 3 (w.x.map DDead.c),.ow 3 1 (w.p.map intC),.ow 72 25 (w.tasks.map DTask.o),.ow 152 25 (w.deeds.map DDeed.o)])
  (Uu w 1 AOh hf AOh) rfl ⟨rfl,rfl,rfl,rfl,AQ _,AOi,rfl,rfl,rfl,rfl,rfl,rfl,rfl,rfl,rfl,rfl,rfl,rfl,rfl,rfl,rfl,rfl,Ba _,AOi,rfl,rfl,rfl,rfl,BG _,AOi,rfl,rfl,rfl,rfl,AQ _,AOi,rfl,rfl,rfl,rfl,Bj _,AOi,rfl,rfl,rfl,rfl,AQ _,AOi,rfl,rfl,rfl,rfl,Gp _,AOi,rfl,rfl,rfl,rfl,Cc _,AOi,trivial⟩ rfl (.inl rfl) fun cl' rs hM=>?_
 obtain⟨rfl,rfl⟩:=hM
 refine⟨⟨rfl,⟨rfl,rfl⟩,rfl,rfl,rfl,rfl,rfl,rfl,⟨rfl,rfl⟩,⟨rfl,rfl⟩,⟨rfl,rfl⟩,⟨rfl,rfl⟩,⟨rfl,rfl⟩,⟨rfl,rfl⟩,⟨rfl,rfl⟩,trivial⟩, ?_⟩
 simp only[go_sem,hn1]
 refine ACw (args:=[.agg X.c,.agg X.c]) _ APL rfl (Ir _) fun _=>?_
 simp only[go_sem,hn1,e0]
 refine ADr true (zs:=[.ref 11,.v (.int .i64 X.c0.slots),.v (.int .i64 X.c0.bufs),.v (.int .i64 X.time),.v (.int .i64 X.t),.v (.int .i64 X.e),.v (.int .i64 X.d.ver),.ref 12,.ref 13,.ref 14,.ref 15,.ref 16,.ref 17,.ref 18])
  (cl:=[.ow 3 1 (X.c0.cols.map intC),.v (.int .i64 X.c0.slots),.v (.int .i64 X.c0.bufs),.v (.int .i64 X.time),.v (.int .i64 X.t),.v (.int .i64 X.e),.v (.int .i64 X.d.ver),.ow 133 5 (X.d.l.map DRef.c),.ow 142 5 (X.b.map DBuf.o),.ow 3 1 (X.m.map intC),.ow 145 3 (X.x.map DDead.c),.ow 3 1 (X.p.map intC),.ow 72 25 (X.tasks.map DTask.o),.ow 152 25 (X.deeds.map DDeed.o)])
  (Uu X 1 AOh hf2 AOh) rfl ⟨rfl,rfl,rfl,rfl,AQ _,AOi,rfl,rfl,rfl,rfl,rfl,rfl,rfl,rfl,rfl,rfl,rfl,rfl,rfl,rfl,rfl,rfl,Ba _,AOi,rfl,rfl,rfl,rfl,BG _,AOi,rfl,rfl,rfl,rfl,AQ _,AOi,rfl,rfl,rfl,rfl,Bj _,AOi,rfl,rfl,rfl,rfl,AQ _,AOi,rfl,rfl,rfl,rfl,Gp _,AOi,rfl,rfl,rfl,rfl,Cc _,AOi,trivial⟩ rfl (.inl rfl) fun cl' rs hM=>?_
 obtain⟨rfl,rfl⟩:=hM
 refine⟨⟨rfl,⟨rfl,rfl⟩,rfl,rfl,rfl,rfl,rfl,rfl,⟨rfl,rfl⟩,⟨rfl,rfl⟩,⟨rfl,rfl⟩,⟨rfl,rfl⟩,⟨rfl,rfl⟩,⟨rfl,rfl⟩,⟨rfl,rfl⟩,trivial⟩, ?_⟩
 simp only[go_sem]
 refine ACw (args:=[.agg (SV 1 X).c,.c (.v (.int .i64 1))]) _ (by simp only[DX,JE,Ai,GH,BZ,Ci,Ac,go_sem]; rfl) rfl (Qp X 1 AOh hf2 AOh) fun _=>?_
 simp only[go_sem,hn2,aA]
 first | refine CW (ES w hf) fun _=>?_ | refine CZ (ES w hf) ?_ | (refine ABU ?_; simp only[go_sem]; refine CZ (ES w hf) ?_)
 simp only[go_sem]
 first | refine CW (hi) fun _=>?_ | refine CZ (hi) ?_ | (refine ABU ?_; simp only[go_sem]; refine CZ (hi) ?_)
 simp only[go_sem]
 refine ACw (args:=[.agg X.c,.agg X.c]) _ APL rfl (Ir _) fun _=>?_
 simp only[go_sem,e0]
 refine ACw (args:=[.agg (SV 1 X).c,.c (.v (.int .i64 1))]) _ (by simp only[DX,JE,Ai,GH,BZ,Ci,Ac,go_sem]; rfl) rfl (Qp X 1 AOh hf2 AOh) fun _=>?_
 simp only[go_sem,hn2,aA]
end Go.Proofs.YtnoldekcdlaahaaGreat
