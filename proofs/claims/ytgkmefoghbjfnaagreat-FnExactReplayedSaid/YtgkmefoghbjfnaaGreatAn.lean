/- A part. -/
import Derived.Test.YtgkmefoghbjfnaaGreatAk
set_option linter.unusedSimpArgs false
set_option linter.unusedVariables false
set_option maxHeartbeats 2000000
set_option maxRecDepth 10000
open Go.Proofs.Tryz
namespace Go.Proofs.YtgkmefoghbjfnaaGreat
open Go.Vm
theorem Qg (l:List Int) (h:l.length≤1048576):Ctr prog 103 [.c (.sl (l.map intC))] [.own 3 1 (l.map intC) true]:=by
 refine CM call103 func103 ntmps103 results103 fun hw=>?_
 have hl:l.length≤2147483648:=by omega
 simp only[go_sem,Jn,ae,hl,ay,AU]
 try simp
theorem Jc (t:DTable) (hc:t.cols.length≤1048576) (hl:fitS Ah t.l):Ctr prog 65 [.agg t.c] [.agg t.o]:=by
 refine CM call65 func65 ntmps65 results65 fun hw=>?_
 simp only[go_sem]
 refine DrawK.mkE ?_
 simp only[go_sem]
 refine CallE.mk _ (Qg t.cols hc) ?_
 simp only[go_sem,AU]
 refine CZ (Ea t.l hl) ?_
 simp only[go_sem,AU,AL]
 try simp[Ac,AO]
theorem Qh (t:DTable) (hc:t.cols.length≤1048576) (hl:fitS Ah t.l):Ctr prog 53 [.agg t.c] [.agg t.o]:=by
 refine CM call53 func53 ntmps53 results53 fun hw=>?_
 have hl2:t.cols.length≤2147483648:=by omega
 simp only[go_sem]
 refine DrawK.mkE ?_
 simp only[go_sem,Jn,ae,hl2,ay,AU]
 refine CZ (F6 t.l hl) ?_
 simp only[go_sem,AU,AL]
 try simp[Ac,AO]
def SV (d:DDeed):DRow:=⟨d.id,d.r⟩
def La (l:List DRow) (n:Int):List DRow:=l.filter fun r=>!II [n] r.id
def Bz (t:DTable) (d:DDeed):Bool:=
 if(d.code==4)=true then !fits t.cols d.r else if(d.code==3)=true then fits t.cols d.r else if(d.code==1)=true then !((DF t.l d.id).isSome||(!fits t.cols d.r||decide (d.id<0))) else false
def Ey (t:DTable) (d:DDeed):DTable:=if(d.code==1)=true then(if Bz t d=true then⟨t.cols,LK t.l (SV d)⟩ else t) else t
def JE:Option DRow→AV
 | none=>.agg [.v (.int .i64 0),.sl []]
 | some r=>.agg r.c
theorem TD (o:Option DRow) (b:Bool) : [Jl o,.val (.c (.v (.bool (b))))].map S9 = [.val (JE o),.val (.c (.v (.bool (b))))]:=by
 cases o with
 | none=>rfl
 | some r=>simp only[Jl,JE,U9,lF,S9,DRow.o_er]
theorem Jo (l:List DRow) (n:Int) (ha:fitS Ah l):Ctr prog 129 [.c (.sl (l.map DRow.c)),.c (.v (.int .i64 (n)))] [.val (JE (DF l n)),.val (.c (.v (.bool ((DF l n).isSome))))]:=by
 rw[← TD]
 exact(X4 l n ha.big).frz
theorem Vr (l:List DRow) (n:Int) (ha:fitS Ah l):Ctr prog 107 [.c (.sl (l.map DRow.c)),.c (.v (.int .i64 (n)))] [.val (JE (DF l n)),.val (.c (.v (.bool ((DF l n).isSome))))]:=by
 rw[← TD]
 exact(X3 l n ha.big).frz
theorem X7 (t:DTable) (d:DDeed) (hl:fitS Ah t.l) (hd:Cc d):PCtr prog 89 37 [.sl (t.cols.map intC),.sl (t.l.map DRow.c)] [.agg d.c] [.sl (t.cols.map intC),.sl ((Ey t d).l.map DRow.c)] [.c (.v (.bool (Bz t d)))]:=by
 rw[FB] at hd
 refine PCtr.mk call89 func89 rfl mixed ntmps89 results89 (by kernel_rfl) rfl rfl fun b hw0 hw=>?_
 simp only[go_sem]
 refine DrawK.mk ?_
 simp only[go_sem]
 refine CallF.mk _ (RD t.cols d.r) ?_
 rcases k4:(d.code==4) with _ | _
 rotate_left
 ·have hc1:(d.code==1)=false:=by simp at k4 ⊢; omega
  have h1:Bz t d = !fits t.cols d.r:=by simp[Bz,k4]
  have h2:Ey t d=t:=by simp[Ey,hc1]
  simp only[go_sem,k4,h1,h2]
  exact⟨0,_,_,_,_,_,rfl,rfl,rfl,rfl,rfl,rfl,rfl,rfl,rfl⟩
 rcases k3:(d.code==3) with _ | _
 rotate_left
 ·have hc1:(d.code==1)=false:=by simp at k3 ⊢; omega
  have h1:Bz t d=fits t.cols d.r:=by simp[Bz,k4,k3]
  have h2:Ey t d=t:=by simp[Ey,hc1]
  simp only[go_sem,k4,k3,h1,h2]
  exact⟨0,_,_,_,_,_,rfl,rfl,rfl,rfl,rfl,rfl,rfl,rfl,rfl⟩
 rcases k1:(d.code==1) with _ | _
 ·have h1:Bz t d=false:=by simp[Bz,k4,k3,k1]
  have h2:Ey t d=t:=by simp[Ey,k1]
  simp only[go_sem,k4,k3,k1,h1,h2]
  exact⟨0,_,_,_,_,_,rfl,rfl,rfl,rfl,rfl,rfl,rfl,rfl,rfl⟩
 have h1:Bz t d = !((DF t.l d.id).isSome||(!fits t.cols d.r||decide (d.id<0))):=by simp[Bz,k4,k3,k1]
 simp only[go_sem,k4,k3,k1]
 rcases hf:DF t.l d.id with _ | r
 ·refine DrawK.mkA 10 6 (by kernel_rfl) ?_
  simp only[go_sem,k4,k3,k1]
  refine CallE.mk _ (Jo t.l d.id hl) ?_
  simp only[go_sem,k4,k3,k1,hf,JE,aj]
  rcases h3:fits t.cols d.r with _ | _
  ·have h2:Ey t d=t:=by simp[Ey,k1,h1,hf,h3]
   have h4:Bz t d=false:=by simp[h1,hf,h3]
   simp only[go_sem,k4,k3,k1,h3,h2,h4]
   exact⟨0,_,_,_,_,_,rfl,rfl,rfl,rfl,rfl,rfl,rfl,rfl,rfl⟩
  rcases h5:decide (d.id<0) with _ | _
  ·have h4:Bz t d=true:=by simp only[h1,hf,h3,h5]; rfl
   have h2:Ey t d=⟨t.cols,LK t.l (SV d)⟩:=by simp[Ey,k1,h4]
   simp only[go_sem,k4,k3,k1,h3,h5,h2,h4]
   refine DrawK.mkE ?_
   simp only[go_sem,k4,k3,k1,h3,h5,h2,h4]
   refine CallE.mk _ (by simpa only[go_sem,SV] using(Z5 t.l (SV d) hl hd.1.1).valO (Ej _)) ?_
   simp only[go_sem,k4,k3,k1,h3,h5,h2,h4,ZX,lH]
   exact⟨0,_,_,_,_,_,rfl,rfl,rfl,rfl,rfl,rfl,rfl,rfl,rfl⟩
  ·have h4:Bz t d=false:=by simp only[h1,hf,h3,h5]; rfl
   have h2:Ey t d=t:=by simp[Ey,k1,h4]
   simp only[go_sem,k4,k3,k1,h3,h5,h2,h4]
   exact⟨0,_,_,_,_,_,rfl,rfl,rfl,rfl,rfl,rfl,rfl,rfl,rfl⟩
 ·have h2:Ey t d=t:=by simp[Ey,k1,h1,hf]
  refine DrawK.mkA 10 6 (by kernel_rfl) ?_
  simp only[go_sem,k4,k3,k1]
  refine CallE.mk _ (Jo t.l d.id hl) ?_
  have h4:Bz t d=false:=by simp[h1,hf]
  simp only[go_sem,k4,k3,k1,hf,JE,aG,h2,h4]
  exact⟨0,_,_,_,_,_,rfl,rfl,rfl,rfl,rfl,rfl,rfl,rfl,rfl⟩
def CP (t:DTable) (d:DDeed):Bool:=
 if(d.code==4)=true then decide (d.id<0) else if(d.code==2)=true then !(DF t.l d.id).isSome else if(d.code==1)=true then(DF t.l d.id).isSome else false
def Dl (t:DTable) (d:DDeed):DTable:=if(d.code==1)=true then⟨t.cols,La t.l d.id⟩ else t
theorem Vs (t:DTable) (d:DDeed) (hl:fitS Ah t.l):PCtr prog 90 37 [.sl (t.cols.map intC),.sl (t.l.map DRow.c)] [.agg d.c] [.sl (t.cols.map intC),.sl ((Dl t d).l.map DRow.c)] [.c (.v (.bool (CP t d)))]:=by
 refine PCtr.mk call90 func90 rfl mixed ntmps90 results90 (by kernel_rfl) rfl rfl fun b hw0 hw=>?_
 simp only[go_sem]
 first | refine DrawK.mkA 10 6 (by kernel_rfl) ?_ | skip
 try simp only[go_sem]
 refine CallE.mk _ (Jo t.l d.id hl) ?_
 rcases hf:DF t.l d.id with _ | r
 all_goals
  simp only[go_sem,hf,JE,aj,aG]
  rcases k4:(d.code==4) with _ | _
  rotate_left
  ·have hc1:(d.code==1)=false:=by simp at k4 ⊢; omega
   have h1:CP t d=decide (d.id<0):=by simp[CP,k4]
   have h2:Dl t d=t:=by simp[Dl,hc1]
   simp only[go_sem,k4,h1,h2]
   exact⟨0,_,_,_,_,_,rfl,rfl,rfl,rfl,rfl,rfl,rfl,rfl,rfl⟩
  rcases k2:(d.code==2) with _ | _
  rotate_left
  ·have hc1:(d.code==1)=false:=by simp at k2 ⊢; omega
   have h1:CP t d = !(DF t.l d.id).isSome:=by simp[CP,k4,k2]
   have h2:Dl t d=t:=by simp[Dl,hc1]
   rw[hf] at h1
   simp only[go_sem,k4,k2,h1,h2,aj,aG]
   exact⟨0,_,_,_,_,_,rfl,rfl,rfl,rfl,rfl,rfl,rfl,rfl,rfl⟩
  rcases k1:(d.code==1) with _ | _
  ·have h1:CP t d=false:=by simp[CP,k4,k2,k1]
   have h2:Dl t d=t:=by simp[Dl,k1]
   simp only[go_sem,k4,k2,k1,h1,h2]
   exact⟨0,_,_,_,_,_,rfl,rfl,rfl,rfl,rfl,rfl,rfl,rfl,rfl⟩
  have h1:CP t d=(DF t.l d.id).isSome:=by simp[CP,k4,k2,k1]
  have h2:Dl t d=⟨t.cols,La t.l d.id⟩:=by simp[Dl,k1]
  rw[hf] at h1
  simp only[go_sem,k4,k2,k1,h1,h2]
  refine DrawK.mkE ?_
  simp only[go_sem,k4,k2,k1,h1,h2,ay,bQ,Vf]
  refine CallE.mk _ (by simpa only[go_sem,U9,lF,intC,La] using(X6 t.l [d.id] hl (by simp)).valO (Ej _)) ?_
  simp only[go_sem,k4,k2,k1,h1,h2,aj,aG,ZX,lH]
  exact⟨0,_,_,_,_,_,rfl,rfl,rfl,rfl,rfl,rfl,rfl,rfl,rfl⟩
theorem L9 {f:FuncId} {args:List AV} {q:DQuery} {l:List DRow} (h:Ctr prog f args [F5 q l]):Ctr prog f args [.val (.agg (answer q l).c)]:=by
 rw[← Yi]
 exact h.frz
theorem L_ (q:DQuery) (l:List DRow) (hq:q.out.length≤1048576) (hl:fitS Ah l):fitS Ah (answer q l).rows:=by
 have h0:fitS Ah ([]:List DRow):=⟨by simp,fun x hx=>by simp at hx⟩
 unfold answer
 repeat' split
 ·have hm:fitS Ah (meant q l):=⟨ZW (TV q l) hl.1,fun x hx=>hl.2 x (List.mem_filter.1 hx).1⟩
  refine⟨by simp; exact hm.1,fun x hx=>?_⟩
  obtain⟨r,hr,rfl⟩:=cO.1 hx
  rw[Bc]
  have h1:(LP r q.out).length≤q.out.length:=mQ _ _
  refine⟨by simp only[JU]; omega,fun v hv=>?_⟩
  have h2:=hm.2 r hr
  rw[Bc] at h2
  simp only[JU,LP,List.mem_filterMap] at hv
  obtain⟨k,_,hk⟩:=hv
  split at hk
  ·exact h2.2 v (aT hk)
  ·cases hk
 all_goals exact h0
def BC (t:DTable) (d:DDeed):Bool:=
 if(d.code==0)=true then Aa t.cols d.q else if(d.code==4)=true then !Aa t.cols d.q else if(d.code==1)=true then Aa t.cols d.q&&DR d.res (answer d.q t.l) else false
theorem Vt (t:DTable) (d:DDeed) (hc:t.cols.length≤1048576) (hl:fitS Ah t.l) (hd:Cc d):PCtr prog 91 37 [.sl (t.cols.map intC),.sl (t.l.map DRow.c)] [.agg d.c] [.sl (t.cols.map intC),.sl (t.l.map DRow.c)] [.c (.v (.bool (BC t d)))]:=by
 rw[FB] at hd
 refine PCtr.mk call91 func91 rfl mixed ntmps91 results91 (by kernel_rfl) rfl rfl fun b hw0 hw=>?_
 simp only[go_sem]
 refine DrawK.mk ?_
 simp only[go_sem]
 refine CY (SS t.cols d.q hc hd.2.1) ?_
 rcases k0:(d.code==0) with _ | _
 rotate_left
 ·have h1:BC t d=Aa t.cols d.q:=by simp[BC,k0]
  simp only[go_sem,k0,h1]
  exact⟨0,_,_,_,_,_,rfl,rfl,rfl,rfl,rfl,rfl,rfl,rfl,rfl⟩
 rcases k4:(d.code==4) with _ | _
 rotate_left
 ·have h1:BC t d = !Aa t.cols d.q:=by simp[BC,k0,k4]
  simp only[go_sem,k0,k4,h1]
  exact⟨0,_,_,_,_,_,rfl,rfl,rfl,rfl,rfl,rfl,rfl,rfl,rfl⟩
 rcases k1:(d.code==1) with _ | _
 ·have h1:BC t d=false:=by simp[BC,k0,k4,k1]
  simp only[go_sem,k0,k4,k1,h1]
  exact⟨0,_,_,_,_,_,rfl,rfl,rfl,rfl,rfl,rfl,rfl,rfl,rfl⟩
 have h1:BC t d=(Aa t.cols d.q&&DR d.res (answer d.q t.l)):=by simp[BC,k0,k4,k1]
 rcases h2:Aa t.cols d.q with _ | _
 ·rw[h2,aC] at h1
  simp only[go_sem,k0,k4,k1,h1,h2]
  try refine DrawK.mk ?_
  try simp only[go_sem,k0,k4,k1,h1,h2]
  exact⟨0,_,_,_,_,_,rfl,rfl,rfl,rfl,rfl,rfl,rfl,rfl,rfl⟩
 rw[h2,aU] at h1
 simp only[go_sem,k0,k4,k1,h1,h2]
 refine DrawK.mk ?_
 simp only[go_sem,k0,k4,k1,h1,h2]
 refine CY (L9 (U4 d.q t.l hd.2.1 hl.big)) ?_
 simp only[go_sem,k0,k4,k1,h1,h2]
 refine CY (SQ d.res (answer d.q t.l) hd.2.2.1 (L_ d.q t.l hd.2.1.2 hl)) ?_
 simp only[go_sem,k0,k4,k1,h1,h2]
 exact⟨0,_,_,_,_,_,rfl,rfl,rfl,rfl,rfl,rfl,rfl,rfl,rfl⟩
noncomputable def Jd (t:DTable) (d:DDeed):Bool:=DT t&&(Cj d&&(d.lin != -1))
noncomputable def AC (t:DTable) (d:DDeed):Option DTable:=
 if Jd t d=true then
  (
   if(d.op==1)=true then(if Bz t d=true then some (Ey t d) else none) else
   if(d.op==2)=true then(if CP t d=true then some (Dl t d) else none) else
   if(d.op==3)=true then(if BC t d=true then some t else none) else some t)
 else none
noncomputable def JF (t:DTable) (d:DDeed):DTable:=(AC t d).getD t
theorem AZ {t:DTable} {d:DDeed} (h:AC t d=none):JF t d=t:=by simp[JF,h]
theorem Ap {t t':DTable} {d:DDeed} (h:AC t d=some t'):JF t d=t':=by simp[JF,h]
theorem gu {l:List DRow} {r:DRow} (hl:fitS Ah l) (hr:fitS EK r.l):∀ x∈LK l r,Ah x:=by
 intro x hx
 simp only[LK,U8,oq] at hx
 rcases hx with (hx | rfl) | hx
 ·exact hl.2 x ((List.takeWhile_sublist _).subset hx)
 ·rw[Bc]; exact hr
 ·exact hl.2 x ((List.dropWhile_sublist _).subset hx)
theorem Vu (l:List DRow) (r:DRow):(LK l r).length=l.length+1:=by
 have:=congrArg List.length (List.takeWhile_append_dropWhile (p:=fun x:DRow=>decide (x.id<r.id)) (l:=l))
 simp only[LK,aO,List.length_singleton] at this ⊢
 omega
theorem Vw {t:DTable} {d:DDeed} (ht:Bf t) (hd:Cc d) (hroom:t.l.length+1≤1048576):Bf (Ey t d):=by
 rw[BL] at ht
 rw[FB] at hd
 unfold Ey
 repeat' split
 ·rw[BL]
  exact⟨ht.1,by simp only[Vu]; exact hroom,gu ht.2 hd.1⟩
 ·exact(BL t).mpr ht
 ·exact(BL t).mpr ht
theorem TE {t:DTable} {d:DDeed} (ht:Bf t):Bf (Dl t d):=by
 rw[BL] at ht
 unfold Dl
 split
 ·rw[BL]
  exact⟨ht.1,ZW (sS _ _) ht.2.1,fun x hx=>ht.2.2 x (List.mem_filter.1 hx).1⟩
 ·exact(BL t).mpr ht
theorem Z7 (t:DTable) (d:DDeed):(Ey t d).cols=t.cols:=by
 unfold Ey
 repeat' split
 all_goals rfl
theorem X8 (t:DTable) (d:DDeed):(Dl t d).cols=t.cols:=by unfold Dl; split<;>rfl
theorem Vx (t:DTable) (d:DDeed) (ht:Bf t) (hd:Cc d) (hroom:DT t=true→t.l.length+1≤1048576):Ctr prog 54 [.agg t.c,.agg d.c] [.val (.agg (JF t d).c),.val (.c (.v (.bool ((AC t d).isSome))))]:=by
 have ht0:=ht
 rw[BL] at ht
 have hcopy:∀ t:DTable,Bf t→Ctr prog 53 [.agg t.c] [.val (.agg t.c)]:=fun t ht=>by rw[BL] at ht; exact(Qh t ht.1 ht.2).aggVal t.o_er
 refine CM call54 func54 ntmps54 results54 fun hw=>?_
 simp only[go_sem]
 refine CW (hcopy t ht0) fun _=>?_
 simp only[go_sem]
 refine CW (Wj t) fun _=>?_
 rcases h1:DT t with _ | _
 ·have hn:AC t d=none:=by simp[AC,Jd,h1]
  rw[AZ hn,hn]
  simp only[go_sem,h1,aj]
  refine CW (hcopy t ht0) fun _=>?_
  simp only[go_sem]
 have hroom:=hroom h1
 simp only[go_sem,h1]
 refine CW (UJ d) fun _=>?_
 rcases h2:Cj d with _ | _
 ·have hn:AC t d=none:=by simp[AC,Jd,h1,h2]
  rw[AZ hn,hn]
  simp only[go_sem,h1,h2,aj]
  refine CW (hcopy t ht0) fun _=>?_
  simp only[go_sem]
 rcases h3:(d.lin != -1) with _ | _
 ·have hn:AC t d=none:=by simp only[AC,Jd,h1,h2,h3]; rfl
  rw[AZ hn,hn]
  simp only[go_sem,h1,h2,h3,aj]
  refine CW (hcopy t ht0) fun _=>?_
  simp only[go_sem]
 have hdone:Jd t d=true:=by simp only[Jd,h1,h2,h3]; rfl
 rcases k1:(d.op==1) with _ | _
 rotate_left
 ·simp only[go_sem,h1,h2,h3,k1]
  refine PtrK.mk (cl':=[.sl (t.cols.map intC),.sl ((Ey t d).l.map DRow.c)]) (rs:=[.c (.v (.bool (Bz t d)))]) ?h rfl rfl rfl rfl rfl rfl rfl ?_
  case h=>simpa only[go_sem] using X7 t d ht.2 hd
  rcases hok:Bz t d with _ | _
  ·have hn:AC t d=none:=by simp only[AC,hdone,k1,hok]; rfl
   rw[AZ hn,hn]
   simp only[go_sem,h1,h2,h3,k1,hok,aj]
   refine CW (hcopy t ht0) fun _=>?_
   simp only[go_sem]
  ·have hn:AC t d=some (Ey t d):=by simp only[AC,hdone,k1,hok]; rfl
   rw[Ap hn,hn]
   have hc2:(Ey t d).cols=t.cols:=Z7 t d
   simp only[go_sem,h1,h2,h3,k1,hok,aG]
   refine CallK.mk _ (by have:=hcopy (Ey t d) (Vw ht0 hd hroom); rw[DTable.c_eq,hc2] at this; simpa only[go_sem] using this) fun _=>?_
   simp only[go_sem,hc2]
 rcases k2:(d.op==2) with _ | _
 rotate_left
 ·simp only[go_sem,h1,h2,h3,k1,k2]
  refine PtrK.mk (cl':=[.sl (t.cols.map intC),.sl ((Dl t d).l.map DRow.c)]) (rs:=[.c (.v (.bool (CP t d)))]) ?h rfl rfl rfl rfl rfl rfl rfl ?_
  case h=>simpa only[go_sem] using Vs t d ht.2
  rcases hok:CP t d with _ | _
  ·have hn:AC t d=none:=by simp only[AC,hdone,k1,k2,hok]; rfl
   rw[AZ hn,hn]
   simp only[go_sem,h1,h2,h3,k1,k2,hok,aj]
   refine CW (hcopy t ht0) fun _=>?_
   simp only[go_sem]
  ·have hn:AC t d=some (Dl t d):=by simp only[AC,hdone,k1,k2,hok]; rfl
   rw[Ap hn,hn]
   have hc2:(Dl t d).cols=t.cols:=X8 t d
   simp only[go_sem,h1,h2,h3,k1,k2,hok,aG]
   refine CallK.mk _ (by have:=hcopy (Dl t d) (TE ht0); rw[DTable.c_eq,hc2] at this; simpa only[go_sem] using this) fun _=>?_
   simp only[go_sem,hc2]
 rcases k3:(d.op==3) with _ | _
 rotate_left
 ·simp only[go_sem,h1,h2,h3,k1,k2,k3]
  refine PtrK.mk (cl':=[.sl (t.cols.map intC),.sl ((t).l.map DRow.c)]) (rs:=[.c (.v (.bool (BC t d)))]) ?h rfl rfl rfl rfl rfl rfl rfl ?_
  case h=>simpa only[go_sem] using Vt t d ht.1 ht.2 hd
  rcases hok:BC t d with _ | _
  ·have hn:AC t d=none:=by simp only[AC,hdone,k1,k2,k3,hok]; rfl
   rw[AZ hn,hn]
   simp only[go_sem,h1,h2,h3,k1,k2,k3,hok,aj]
   refine CW (hcopy t ht0) fun _=>?_
   simp only[go_sem]
  ·have hn:AC t d=some (t):=by simp only[AC,hdone,k1,k2,k3,hok]; rfl
   rw[Ap hn,hn]
   have hc2:t.cols=t.cols:=rfl
   simp only[go_sem,h1,h2,h3,k1,k2,k3,hok,aG]
   refine CallK.mk _ (by have:=hcopy (t) (ht0); rw[DTable.c_eq,hc2] at this; simpa only[go_sem] using this) fun _=>?_
   simp only[go_sem,hc2]
 have hn:AC t d=some t:=by simp only[AC,hdone,k1,k2,k3]; rfl
 rw[Ap hn,hn]
 simp only[go_sem,h1,h2,h3,k1,k2,k3,aG]
 refine CW (hcopy t ht0) fun _=>?_
 simp only[go_sem]
end Go.Proofs.YtgkmefoghbjfnaaGreat
