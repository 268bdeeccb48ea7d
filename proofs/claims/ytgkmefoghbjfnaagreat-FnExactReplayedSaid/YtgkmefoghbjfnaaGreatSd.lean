/- A part. -/
import Derived.Test.YtgkmefoghbjfnaaGreatAn
import Derived.Test.YtgkmefoghbjfnaaGreatEx
import Derived.Test.YtgkmefoghbjfnaaGreatSz
set_option linter.unusedSimpArgs false
set_option linter.unusedVariables false
set_option maxHeartbeats 4000000
set_option maxRecDepth 10000
open Go.Proofs.Tryz
namespace Go.Proofs.YtgkmefoghbjfnaaGreat
open Go.Vm
theorem dY {l:List DRow} {n:Int} (h:DF l n=none):La l n=l:=by
 unfold La
 rw[List.filter_eq_self]
 intro x hx
 have:=List.find?_eq_none.1 h x hx
 simp only[II]
 simp at this ⊢
 intro h2; exact this h2.symm
theorem Pi (l:List DRow) (n:Int) (hl:fitS Ah l):Ctr prog 110 [.c (.sl (l.map DRow.c)),.c (.sl ([n].map intC))] [.own 147 2 ((La l n).map DRow.o) true]:=X5 l [n] hl (by simp)
theorem XF (t:DTable) (d:DDeed) (ht:Bf t) (hd:Cc d) (hroom:DT t=true→t.l.length+1≤1048576):Ctr prog 66 [.agg t.c,.agg d.c] [.agg (JF t d).o,.val (.c (.v (.bool ((AC t d).isSome))))]:=by
 have ht0:=ht
 have hd0:=hd
 rw[BL] at ht
 rw[FB] at hd
 refine CM call66 func66 ntmps66 results66 fun hw=>?_
 simp only[go_sem]
 refine CW (Jc t ht.1 ht.2) fun _=>?_
 simp only[go_sem,AU,AL]
 refine CW (Wl t) fun _=>?_
 rcases h1:DT t with _ | _
 ·have hn:AC t d=none:=by simp only[AC,Jd,h1]; rfl
  rw[AZ hn,hn]
  simp only[go_sem,h1,aj,AU,AL]
  try simp[Ac,AO]
 have hroom:=hroom h1
 simp only[go_sem,h1]
 refine CW (UK d) fun _=>?_
 rcases h2:Cj d with _ | _
 ·have hn:AC t d=none:=by simp only[AC,Jd,h1,h2]; rfl
  rw[AZ hn,hn]
  simp only[go_sem,h1,h2,aj,AU,AL]
  try simp[Ac,AO]
 rcases h3:(d.lin == -1) with _ | _
 rotate_left
 ·have h3':(d.lin != -1)=false:=by simp[bne,h3]
  have hn:AC t d=none:=by simp only[AC,Jd,h1,h2,h3']; rfl
  rw[AZ hn,hn]
  simp only[go_sem,h1,h2,h3,aj,AU,AL]
  try simp[Ac,AO]
 have h3':(d.lin != -1)=true:=by simp[bne,h3]
 have hdone:Jd t d=true:=by simp only[Jd,h1,h2,h3']; rfl
 simp only[go_sem,h1,h2,h3]
 refine CW (Vr t.l d.id ht.2) fun _=>?_
 rcases hf:DF t.l d.id with _ | r
 ·simp only[go_sem,hf,JE,aj,aG]
  refine CallK.mk _ (MM t.cols d.r) fun _=>?_
  rcases k1:(d.op==1) with _ | _
  rotate_left
  ·rcases c1:(d.code==1) with _ | _
   ·have hputT:Ey t d=t:=by simp[Ey,c1]
    rcases c4:(d.code==4) with _ | _
    rotate_left
    ·have hok:Bz t d = !fits t.cols d.r:=by simp[Bz,c4]
     rcases h5:fits t.cols d.r with _ | _
     ·rw[h5] at hok
      have hn:AC t d=some (t):=by simp only[AC,hdone,k1,hok,hputT,bD]; rfl
      rw[Ap hn,hn]
      simp only[go_sem,k1,c1,c4,h5,aG,aj,AU,AL]
      try simp[Ac,AO]
     ·rw[h5] at hok
      have hn:AC t d=none:=by simp only[AC,hdone,k1,hok,bJ]; rfl
      rw[AZ hn,hn]
      simp only[go_sem,k1,c1,c4,h5,aG,aj,AU,AL]
      try simp[Ac,AO]
    rcases c3:(d.code==3) with _ | _
    ·have hok:Bz t d=false:=by simp[Bz,c4,c3,c1]
     have hn:AC t d=none:=by simp only[AC,hdone,k1,hok]; rfl
     rw[AZ hn,hn]
     simp only[go_sem,k1,c1,c4,c3,aG,aj,AU,AL]
     try simp[Ac,AO]
    ·have hok:Bz t d=fits t.cols d.r:=by simp[Bz,c4,c3]
     rcases h5:fits t.cols d.r with _ | _
     ·rw[h5] at hok
      have hn:AC t d=none:=by simp only[AC,hdone,k1,hok]; rfl
      rw[AZ hn,hn]
      simp only[go_sem,k1,c1,c4,c3,h5,aG,aj,AU,AL]
      try simp[Ac,AO]
     ·rw[h5] at hok
      have hn:AC t d=some (t):=by simp only[AC,hdone,k1,hok,hputT]; rfl
      rw[Ap hn,hn]
      simp only[go_sem,k1,c1,c4,c3,h5,aG,aj,AU,AL]
      try simp[Ac,AO]
   ·have c4:(d.code==4)=false:=by simp at c1 ⊢; omega
    have c3:(d.code==3)=false:=by simp at c1 ⊢; omega
    have hok:Bz t d = !((DF t.l d.id).isSome||(!fits t.cols d.r||decide (d.id<0))):=by simp[Bz,c4,c3,c1]
    rcases h5:fits t.cols d.r with _ | _
    ·have hok2:Bz t d=false:=by rw[hok,h5]; simp
     have hn:AC t d=none:=by simp only[AC,hdone,k1,hok2]; rfl
     rw[AZ hn,hn]
     simp only[go_sem,k1,c1,h5,aG,aj,AU,AL]
     try simp[Ac,AO]
    rcases h6:decide (d.id≥0) with _ | _
    ·have h6':decide (d.id<0)=true:=by simp at h6 ⊢; omega
     have hok2:Bz t d=false:=by rw[hok,h5,h6']; simp
     have hn:AC t d=none:=by simp only[AC,hdone,k1,hok2]; rfl
     rw[AZ hn,hn]
     simp only[go_sem,k1,c1,h5,h6,aG,aj,AU,AL]
     try simp[Ac,AO]
    have h6':decide (d.id<0)=false:=by simp at h6 ⊢; omega
    have hok2:Bz t d=true:=by rw[hok,hf,h5,h6']; rfl
    have hputT:Ey t d=⟨t.cols,LK t.l (SV d)⟩:=by simp only[Ey,c1,hok2]; rfl
    have hn:AC t d=some (⟨t.cols,LK t.l (SV d)⟩):=by simp only[AC,hdone,k1,hok2,hputT]; rfl
    rw[Ap hn,hn]
    simp only[go_sem,k1,c1,h5,h6,bD,aG]
    refine CallK.mk _ (by simpa only[go_sem,SV] using Z4 t.l (SV d) ht.2 hd.1.1) fun _=>?_
    simp only[go_sem,SV,AU,AL]
    try simp[Ac,AO,SV]
  rcases k2:(d.op==2) with _ | _
  rotate_left
  ·rcases c1:(d.code==1) with _ | _
   rotate_left
   ·have c4:(d.code==4)=false:=by simp at c1 ⊢; omega
    have c2:(d.code==2)=false:=by simp at c1 ⊢; omega
    have hok:CP t d=(DF t.l d.id).isSome:=by simp[CP,c4,c2,c1]
    rw[hf] at hok
    have hdT:Dl t d=⟨t.cols,La t.l d.id⟩:=by simp[Dl,c1]
    have hn:AC t d=none:=by simp only[AC,hdone,k1,k2,hok,aj]; rfl
    rw[AZ hn,hn]
    have hsame:=dY hf
    simp only[go_sem,k1,k2,c1,aG,aj,ay,bQ,Vf]
    refine CallK.mk _ (by simpa only[go_sem,U9,lF,intC] using Pi t.l d.id ht.2) fun _=>?_
    simp only[go_sem,k1,k2,c1,AU,AL]
    try rw[hsame]
    try simp[Ac,AO]
   have hdT:Dl t d=t:=by simp[Dl,c1]
   rcases c2:(d.code==2) with _ | _
   rotate_left
   ·have c4:(d.code==4)=false:=by simp at c2 ⊢; omega
    have hok:CP t d = !(DF t.l d.id).isSome:=by simp[CP,c4,c2]
    rw[hf] at hok
    have hn:AC t d=some (t):=by simp only[AC,hdone,k1,k2,hok,hdT,aG,aj,bJ,bD]; rfl
    rw[Ap hn,hn]
    simp only[go_sem,k1,k2,c1,c2,bJ,bD,aG,aj,AU,AL]
    try simp[Ac,AO]
   rcases c4:(d.code==4) with _ | _
   ·have hok:CP t d=false:=by simp[CP,c4,c2,c1]
    have hn:AC t d=none:=by simp only[AC,hdone,k1,k2,hok]; rfl
    rw[AZ hn,hn]
    simp only[go_sem,k1,k2,c1,c2,c4,aG,aj,AU,AL]
    try simp[Ac,AO]
   have hok:CP t d=decide (d.id<0):=by simp[CP,c4]
   rcases h6:decide (d.id<0) with _ | _
   ·rw[h6] at hok
    have hn:AC t d=none:=by simp only[AC,hdone,k1,k2,hok]; rfl
    rw[AZ hn,hn]
    simp only[go_sem,k1,k2,c1,c2,c4,h6,aG,aj,AU,AL]
    try simp[Ac,AO]
   ·rw[h6] at hok
    have hn:AC t d=some (t):=by simp only[AC,hdone,k1,k2,hok,hdT]; rfl
    rw[Ap hn,hn]
    simp only[go_sem,k1,k2,c1,c2,c4,h6,aG,aj,AU,AL]
    try simp[Ac,AO]
  rcases k3:(d.op==3) with _ | _
  rotate_left
  ·simp only[go_sem,k1,k2,k3]
   refine CW (LZ t.cols d.q ht.1 hd.2.1) fun _=>?_
   rcases h7:Aa t.cols d.q with _ | _
   ·rcases c1:(d.code==1) with _ | _
    ·rcases c0:(d.code==0) with _ | _
     ·rcases c4:(d.code==4) with _ | _
      ·have hok:BC t d=false:=by simp only[BC,c0,c4,c1]; rfl
       have hn:AC t d=none:=by simp only[AC,hdone,k1,k2,k3,hok]; rfl
       rw[AZ hn,hn]
       simp only[go_sem,k1,k2,k3,c1,c0,c4,h7,aG,aj,AU,AL]
       try simp[Ac,AO]
      ·have hok:BC t d = !Aa t.cols d.q:=by simp only[BC,c0,c4]; rfl
       rw[h7] at hok
       have hn:AC t d=some (t):=by simp only[AC,hdone,k1,k2,k3,hok,bD]; rfl
       rw[Ap hn,hn]
       simp only[go_sem,k1,k2,k3,c1,c0,c4,h7,bD,aG,aj,AU,AL]
       try simp[Ac,AO]
     ·have hok:BC t d=Aa t.cols d.q:=by simp only[BC,c0]; rfl
      rw[h7] at hok
      have hn:AC t d=none:=by simp only[AC,hdone,k1,k2,k3,hok]; rfl
      rw[AZ hn,hn]
      simp only[go_sem,k1,k2,k3,c1,c0,h7,aG,aj,AU,AL]
      try simp[Ac,AO]
    ·have c0:(d.code==0)=false:=by simp at c1 ⊢; omega
     have c4:(d.code==4)=false:=by simp at c1 ⊢; omega
     have hok:BC t d=(Aa t.cols d.q&&DR d.res (answer d.q t.l)):=by simp only[BC,c0,c4,c1]; rfl
     rw[h7] at hok
     have hn:AC t d=none:=by simp only[AC,hdone,k1,k2,k3,hok,aC]; rfl
     rw[AZ hn,hn]
     simp only[go_sem,k1,k2,k3,c1,h7,aG,aj,AU,AL]
     refine DrawK.mk ?_
     simp only[go_sem,k1,k2,k3,c1,h7,aG,aj,AU,AL]
     try simp[Ac,AO]
   ·rcases c1:(d.code==1) with _ | _
    ·rcases c0:(d.code==0) with _ | _
     ·rcases c4:(d.code==4) with _ | _
      ·have hok:BC t d=false:=by simp only[BC,c0,c4,c1]; rfl
       have hn:AC t d=none:=by simp only[AC,hdone,k1,k2,k3,hok]; rfl
       rw[AZ hn,hn]
       simp only[go_sem,k1,k2,k3,c1,c0,c4,h7,aG,aj,AU,AL]
       try simp[Ac,AO]
      ·have hok:BC t d = !Aa t.cols d.q:=by simp only[BC,c0,c4]; rfl
       rw[h7] at hok
       have hn:AC t d=none:=by simp only[AC,hdone,k1,k2,k3,hok,bJ]; rfl
       rw[AZ hn,hn]
       simp only[go_sem,k1,k2,k3,c1,c0,c4,h7,bJ,aG,aj,AU,AL]
       try simp[Ac,AO]
     ·have hok:BC t d=Aa t.cols d.q:=by simp only[BC,c0]; rfl
      rw[h7] at hok
      have hn:AC t d=some (t):=by simp only[AC,hdone,k1,k2,k3,hok]; rfl
      rw[Ap hn,hn]
      simp only[go_sem,k1,k2,k3,c1,c0,h7,aG,aj,AU,AL]
      try simp[Ac,AO]
    ·have c0:(d.code==0)=false:=by simp at c1 ⊢; omega
     have c4:(d.code==4)=false:=by simp at c1 ⊢; omega
     have hok:BC t d=(Aa t.cols d.q&&DR d.res (answer d.q t.l)):=by simp only[BC,c0,c4,c1]; rfl
     rw[h7] at hok
     simp only[go_sem,k1,k2,k3,c1,h7]
     refine DrawK.mk ?_
     simp only[go_sem,k1,k2,k3,c1,h7]
     refine CY (L9 (Nw d.q t.l hd.2.1 ht.2.big)) ?_
     simp only[go_sem,k1,k2,k3,c1,h7]
     refine CY (LW d.res (answer d.q t.l) hd.2.2.1 (L_ d.q t.l hd.2.1.2 ht.2)) ?_
     rw[aU] at hok
     rcases h8:DR d.res (answer d.q t.l) with _ | _
     ·rw[h8] at hok
      have hn:AC t d=none:=by simp only[AC,hdone,k1,k2,k3,hok]; rfl
      rw[AZ hn,hn]
      simp only[go_sem,k1,k2,k3,c1,h7,h8,aG,aj,AU,AL]
      try simp[Ac,AO]
     ·rw[h8] at hok
      have hn:AC t d=some t:=by simp only[AC,hdone,k1,k2,k3,hok]; rfl
      rw[Ap hn,hn]
      simp only[go_sem,k1,k2,k3,c1,h7,h8,aG,aj,AU,AL]
      try simp[Ac,AO]
  have k4:(d.op==4)=true:=by
   simp only[Cj] at h2
   rcases h8:Ce d.op 1 4 with _ | _
   ·rw[h8] at h2; simp at h2
   ·simp[Ce] at h8 k1 k2 k3 ⊢; omega
  have hn:AC t d=some (t):=by simp only[AC,hdone,k1,k2,k3]; rfl
  rw[Ap hn,hn]
  simp only[go_sem,k1,k2,k3,k4,aG,aj,AU,AL]
  try simp[Ac,AO]
 ·simp only[go_sem,hf,JE,aj,aG]
  refine CallK.mk _ (MM t.cols d.r) fun _=>?_
  rcases k1:(d.op==1) with _ | _
  rotate_left
  ·rcases c1:(d.code==1) with _ | _
   ·have hputT:Ey t d=t:=by simp[Ey,c1]
    rcases c4:(d.code==4) with _ | _
    rotate_left
    ·have hok:Bz t d = !fits t.cols d.r:=by simp[Bz,c4]
     rcases h5:fits t.cols d.r with _ | _
     ·rw[h5] at hok
      have hn:AC t d=some (t):=by simp only[AC,hdone,k1,hok,hputT,bD]; rfl
      rw[Ap hn,hn]
      simp only[go_sem,k1,c1,c4,h5,aG,aj,AU,AL]
      try simp[Ac,AO]
     ·rw[h5] at hok
      have hn:AC t d=none:=by simp only[AC,hdone,k1,hok,bJ]; rfl
      rw[AZ hn,hn]
      simp only[go_sem,k1,c1,c4,h5,aG,aj,AU,AL]
      try simp[Ac,AO]
    rcases c3:(d.code==3) with _ | _
    ·have hok:Bz t d=false:=by simp[Bz,c4,c3,c1]
     have hn:AC t d=none:=by simp only[AC,hdone,k1,hok]; rfl
     rw[AZ hn,hn]
     simp only[go_sem,k1,c1,c4,c3,aG,aj,AU,AL]
     try simp[Ac,AO]
    ·have hok:Bz t d=fits t.cols d.r:=by simp[Bz,c4,c3]
     rcases h5:fits t.cols d.r with _ | _
     ·rw[h5] at hok
      have hn:AC t d=none:=by simp only[AC,hdone,k1,hok]; rfl
      rw[AZ hn,hn]
      simp only[go_sem,k1,c1,c4,c3,h5,aG,aj,AU,AL]
      try simp[Ac,AO]
     ·rw[h5] at hok
      have hn:AC t d=some (t):=by simp only[AC,hdone,k1,hok,hputT]; rfl
      rw[Ap hn,hn]
      simp only[go_sem,k1,c1,c4,c3,h5,aG,aj,AU,AL]
      try simp[Ac,AO]
   ·have c4:(d.code==4)=false:=by simp at c1 ⊢; omega
    have c3:(d.code==3)=false:=by simp at c1 ⊢; omega
    have hok:Bz t d = !((DF t.l d.id).isSome||(!fits t.cols d.r||decide (d.id<0))):=by simp[Bz,c4,c3,c1]
    rcases h5:fits t.cols d.r with _ | _
    ·have hok2:Bz t d=false:=by rw[hok,h5]; simp
     have hn:AC t d=none:=by simp only[AC,hdone,k1,hok2]; rfl
     rw[AZ hn,hn]
     simp only[go_sem,k1,c1,h5,aG,aj,AU,AL]
     try simp[Ac,AO]
    rcases h6:decide (d.id≥0) with _ | _
    ·have h6':decide (d.id<0)=true:=by simp at h6 ⊢; omega
     have hok2:Bz t d=false:=by rw[hok,h5,h6']; simp
     have hn:AC t d=none:=by simp only[AC,hdone,k1,hok2]; rfl
     rw[AZ hn,hn]
     simp only[go_sem,k1,c1,h5,h6,aG,aj,AU,AL]
     try simp[Ac,AO]
    have h6':decide (d.id<0)=false:=by simp at h6 ⊢; omega
    have hok2:Bz t d=false:=by rw[hok,hf]; simp
    have hn:AC t d=none:=by simp only[AC,hdone,k1,hok2]; rfl
    rw[AZ hn,hn]
    simp only[go_sem,k1,c1,h5,h6,bJ,aG,aj,AU,AL]
    try simp[Ac,AO]
  rcases k2:(d.op==2) with _ | _
  rotate_left
  ·rcases c1:(d.code==1) with _ | _
   rotate_left
   ·have c4:(d.code==4)=false:=by simp at c1 ⊢; omega
    have c2:(d.code==2)=false:=by simp at c1 ⊢; omega
    have hok:CP t d=(DF t.l d.id).isSome:=by simp[CP,c4,c2,c1]
    rw[hf] at hok
    have hdT:Dl t d=⟨t.cols,La t.l d.id⟩:=by simp[Dl,c1]
    have hn:AC t d=some (⟨t.cols,La t.l d.id⟩):=by simp only[AC,hdone,k1,k2,hok,hdT,aG]; rfl
    rw[Ap hn,hn]
    simp only[go_sem,k1,k2,c1,aG,aj,ay,bQ,Vf]
    refine CallK.mk _ (by simpa only[go_sem,U9,lF,intC] using Pi t.l d.id ht.2) fun _=>?_
    simp only[go_sem,k1,k2,c1,AU,AL]
    try simp[Ac,AO]
   have hdT:Dl t d=t:=by simp[Dl,c1]
   rcases c2:(d.code==2) with _ | _
   rotate_left
   ·have c4:(d.code==4)=false:=by simp at c2 ⊢; omega
    have hok:CP t d = !(DF t.l d.id).isSome:=by simp[CP,c4,c2]
    rw[hf] at hok
    have hn:AC t d=none:=by simp only[AC,hdone,k1,k2,hok,hdT,aG,aj,bJ,bD]; rfl
    rw[AZ hn,hn]
    simp only[go_sem,k1,k2,c1,c2,bJ,bD,aG,aj,AU,AL]
    try simp[Ac,AO]
   rcases c4:(d.code==4) with _ | _
   ·have hok:CP t d=false:=by simp[CP,c4,c2,c1]
    have hn:AC t d=none:=by simp only[AC,hdone,k1,k2,hok]; rfl
    rw[AZ hn,hn]
    simp only[go_sem,k1,k2,c1,c2,c4,aG,aj,AU,AL]
    try simp[Ac,AO]
   have hok:CP t d=decide (d.id<0):=by simp[CP,c4]
   rcases h6:decide (d.id<0) with _ | _
   ·rw[h6] at hok
    have hn:AC t d=none:=by simp only[AC,hdone,k1,k2,hok]; rfl
    rw[AZ hn,hn]
    simp only[go_sem,k1,k2,c1,c2,c4,h6,aG,aj,AU,AL]
    try simp[Ac,AO]
   ·rw[h6] at hok
    have hn:AC t d=some (t):=by simp only[AC,hdone,k1,k2,hok,hdT]; rfl
    rw[Ap hn,hn]
    simp only[go_sem,k1,k2,c1,c2,c4,h6,aG,aj,AU,AL]
    try simp[Ac,AO]
  rcases k3:(d.op==3) with _ | _
  rotate_left
  ·simp only[go_sem,k1,k2,k3]
   refine CW (LZ t.cols d.q ht.1 hd.2.1) fun _=>?_
   rcases h7:Aa t.cols d.q with _ | _
   ·rcases c1:(d.code==1) with _ | _
    ·rcases c0:(d.code==0) with _ | _
     ·rcases c4:(d.code==4) with _ | _
      ·have hok:BC t d=false:=by simp only[BC,c0,c4,c1]; rfl
       have hn:AC t d=none:=by simp only[AC,hdone,k1,k2,k3,hok]; rfl
       rw[AZ hn,hn]
       simp only[go_sem,k1,k2,k3,c1,c0,c4,h7,aG,aj,AU,AL]
       try simp[Ac,AO]
      ·have hok:BC t d = !Aa t.cols d.q:=by simp only[BC,c0,c4]; rfl
       rw[h7] at hok
       have hn:AC t d=some (t):=by simp only[AC,hdone,k1,k2,k3,hok,bD]; rfl
       rw[Ap hn,hn]
       simp only[go_sem,k1,k2,k3,c1,c0,c4,h7,bD,aG,aj,AU,AL]
       try simp[Ac,AO]
     ·have hok:BC t d=Aa t.cols d.q:=by simp only[BC,c0]; rfl
      rw[h7] at hok
      have hn:AC t d=none:=by simp only[AC,hdone,k1,k2,k3,hok]; rfl
      rw[AZ hn,hn]
      simp only[go_sem,k1,k2,k3,c1,c0,h7,aG,aj,AU,AL]
      try simp[Ac,AO]
    ·have c0:(d.code==0)=false:=by simp at c1 ⊢; omega
     have c4:(d.code==4)=false:=by simp at c1 ⊢; omega
     have hok:BC t d=(Aa t.cols d.q&&DR d.res (answer d.q t.l)):=by simp only[BC,c0,c4,c1]; rfl
     rw[h7] at hok
     have hn:AC t d=none:=by simp only[AC,hdone,k1,k2,k3,hok,aC]; rfl
     rw[AZ hn,hn]
     simp only[go_sem,k1,k2,k3,c1,h7,aG,aj,AU,AL]
     refine DrawK.mk ?_
     simp only[go_sem,k1,k2,k3,c1,h7,aG,aj,AU,AL]
     try simp[Ac,AO]
   ·rcases c1:(d.code==1) with _ | _
    ·rcases c0:(d.code==0) with _ | _
     ·rcases c4:(d.code==4) with _ | _
      ·have hok:BC t d=false:=by simp only[BC,c0,c4,c1]; rfl
       have hn:AC t d=none:=by simp only[AC,hdone,k1,k2,k3,hok]; rfl
       rw[AZ hn,hn]
       simp only[go_sem,k1,k2,k3,c1,c0,c4,h7,aG,aj,AU,AL]
       try simp[Ac,AO]
      ·have hok:BC t d = !Aa t.cols d.q:=by simp only[BC,c0,c4]; rfl
       rw[h7] at hok
       have hn:AC t d=none:=by simp only[AC,hdone,k1,k2,k3,hok,bJ]; rfl
       rw[AZ hn,hn]
       simp only[go_sem,k1,k2,k3,c1,c0,c4,h7,bJ,aG,aj,AU,AL]
       try simp[Ac,AO]
     ·have hok:BC t d=Aa t.cols d.q:=by simp only[BC,c0]; rfl
      rw[h7] at hok
      have hn:AC t d=some (t):=by simp only[AC,hdone,k1,k2,k3,hok]; rfl
      rw[Ap hn,hn]
      simp only[go_sem,k1,k2,k3,c1,c0,h7,aG,aj,AU,AL]
      try simp[Ac,AO]
    ·have c0:(d.code==0)=false:=by simp at c1 ⊢; omega
     have c4:(d.code==4)=false:=by simp at c1 ⊢; omega
     have hok:BC t d=(Aa t.cols d.q&&DR d.res (answer d.q t.l)):=by simp only[BC,c0,c4,c1]; rfl
     rw[h7] at hok
     simp only[go_sem,k1,k2,k3,c1,h7]
     refine DrawK.mk ?_
     simp only[go_sem,k1,k2,k3,c1,h7]
     refine CY (L9 (Nw d.q t.l hd.2.1 ht.2.big)) ?_
     simp only[go_sem,k1,k2,k3,c1,h7]
     refine CY (LW d.res (answer d.q t.l) hd.2.2.1 (L_ d.q t.l hd.2.1.2 ht.2)) ?_
     rw[aU] at hok
     rcases h8:DR d.res (answer d.q t.l) with _ | _
     ·rw[h8] at hok
      have hn:AC t d=none:=by simp only[AC,hdone,k1,k2,k3,hok]; rfl
      rw[AZ hn,hn]
      simp only[go_sem,k1,k2,k3,c1,h7,h8,aG,aj,AU,AL]
      try simp[Ac,AO]
     ·rw[h8] at hok
      have hn:AC t d=some t:=by simp only[AC,hdone,k1,k2,k3,hok]; rfl
      rw[Ap hn,hn]
      simp only[go_sem,k1,k2,k3,c1,h7,h8,aG,aj,AU,AL]
      try simp[Ac,AO]
  have k4:(d.op==4)=true:=by
   simp only[Cj] at h2
   rcases h8:Ce d.op 1 4 with _ | _
   ·rw[h8] at h2; simp at h2
   ·simp[Ce] at h8 k1 k2 k3 ⊢; omega
  have hn:AC t d=some (t):=by simp only[AC,hdone,k1,k2,k3]; rfl
  rw[Ap hn,hn]
  simp only[go_sem,k1,k2,k3,k4,aG,aj,AU,AL]
  try simp[Ac,AO]
theorem MN {t:DTable} {d:DDeed} (ht:Bf t) (hd:Cc d) (hroom:DT t=true→t.l.length+1≤1048576):Bf (JF t d):=by
 unfold JF AC
 split
 ·rename_i hdone
  have h1:DT t=true:=by simp only[Jd,aI] at hdone; exact hdone.1
  repeat' split
  ·exact Vw ht hd (hroom h1)
  ·exact ht
  ·exact TE ht
  ·exact ht
  ·exact ht
  ·exact ht
  ·exact ht
 ·exact ht
noncomputable def allT:DTable→List DDeed→DTable
 | t,[]=>t
 | t,d::ds=>match AC t d with
  | some t'=>allT t' ds
  | none=>t
noncomputable def MO:DTable→List DDeed→Nat
 | _,[]=>0
 | t,d::ds=>match AC t d with
  | some t'=>MO t' ds+1
  | none=>0
theorem XG {t t':DTable} {ds:List DDeed} {k:Nat} (hk:k<ds.length) (h:AC t ds[k]=some t'):allT t (ds.drop k)=allT t' (ds.drop (k+1))∧MO t (ds.drop k)=MO t' (ds.drop (k+1))+1:=by
 rw[aF hk]
 simp only[allT,MO,h,gY]
theorem XH {t:DTable} {ds:List DDeed} {k:Nat} (hk:k<ds.length) (h:AC t ds[k]=none):allT t (ds.drop k)=t∧MO t (ds.drop k)=0:=by
 rw[aF hk]
 simp only[allT,MO,h,gY]
theorem MP {t t':DTable} {d:DDeed} (h:AC t d=some t'):t'.l.length≤t.l.length+1:=by
 have h1:(Dl t d).l.length≤t.l.length+1:=by
  unfold Dl
  split
  ·have:=sS (fun r:DRow=>!II [d.id] r.id) t.l
   simp only[La]; omega
  ·omega
 have h2:(Ey t d).l.length≤t.l.length+1:=by
  unfold Ey
  repeat' split
  ·simp only[Vu]; omega
  ·omega
  ·omega
 unfold AC at h
 repeat' split at h
 all_goals first | (cases h; done) | skip
 all_goals simp only[ag] at h; subst h
 all_goals first | exact h1 | exact h2 | omega
def uM (t:DTable) (l:List DDeed) (x:Nat×DTable):Prop:=x.1≤l.length∧Bf x.2∧x.2.l.length≤t.l.length+x.1∧allT x.2 (l.drop x.1)=allT t l∧x.1+MO x.2 (l.drop x.1)=MO t l
theorem TQ (n:Int):BI (intC n)=true:=rfl
theorem RY (t:DTable) (l:List DDeed) (ht:Bf t) (hl:fitS Cc l) (hroom:t.l.length+l.length≤1048576):Ctr prog 20 [.agg t.c,.c (.sl (l.map DDeed.c))] [.val (.agg (allT t l).c),.val (.c (.v (.int .i64 ((MO t l)))))]:=by
 have ht0:=ht
 rw[BL] at ht
 have hlen:=hl.1
 refine CM call20 func20 ntmps20 results20 fun hw=>?_
 simp only[go_sem]
 refine CW ((Qh t ht.1 ht.2).aggVal t.o_er) fun _=>?_
 simp only[go_sem,ae]
 refine LoopU.mk 3 (A:=Nat×DTable) (fun x=>[(7,.c (.v (.int .i64 (x.1))))]) (fun x=>[⟨37,2,[[.sl (t.cols.map intC),.sl (t.l.map DRow.c)]],true,true⟩,⟨37,2,[[.v (.slice none 0 0),.v (.slice none 0 0)]],true,true⟩,⟨37,2,[[.sl (x.2.cols.map intC),.sl (x.2.l.map DRow.c)]],true,true⟩]) (uM t l) (fun x=>l.length-x.1) (0,t) ⟨⟨rfl,rfl⟩,rfl,aJ _,ht0,by simp,rfl,by simp⟩ ?_
 rintro⟨k,u⟩ ⟨hk,hu,hul,hbT,hbN⟩
 dsimp only at hk hu hul hbT hbN
 simp only[go_sem,ae]
 refine cndC.mk (fun h=>?_) (fun h=>?_)
 ·have hk':k<l.length:=by simpa using h
  have hroomu:DT u=true→u.l.length+1≤1048576:=fun _=>by omega
  have hd:=hl.2 _ (au hk')
  simp only[go_sem,ae,AA _ hk',hk']
  refine DrawK.mkA 9 5 (by kernel_rfl) ?_
  simp only[go_sem,ae,AA _ hk',hk']
  refine CZ (Vx u l[k] hu hd hroomu) ?_
  rcases hr:AC u l[k] with _ | u'
  ·obtain⟨e1,e2⟩:=XH hk' hr
   rw[e1] at hbT
   rw[e2,lG] at hbN
   rw[← hbT,← hbN,AZ hr]
   simp only[go_sem,ae,AA _ hk',hk',aj]
  ·obtain⟨e1,e2⟩:=XG hk' hr
   rw[e1] at hbT
   rw[e2] at hbN
   have hfit:=MN hu hd hroomu
   rw[Ap hr] at hfit ⊢
   have hlen2:=MP hr
   simp only[go_sem,ae,AA _ hk',hk',aG,wrap_i64 (n:=(k:Int)+1) (by omega) (by omega)]
   exact⟨(k+1,u'),⟨rfl,rfl⟩,rfl,⟨hk',hfit,by simp only; omega,hbT,by simp only; omega⟩,by simp only; omega⟩
 ·have hk':k=l.length:=by simp at h; omega
  subst hk'
  rw[aP] at hbT hbN
  simp only[allT,MO,lG] at hbT hbN
  rw[← hbT,← hbN]
  simp only[go_sem,ae]
theorem RZ (t:DTable) (l:List DDeed) (ht:Bf t) (hl:fitS Cc l) (hroom:t.l.length+l.length≤1048576):Ctr prog 30 [.agg t.c,.c (.sl (l.map DDeed.c))] [.agg (allT t l).o,.val (.c (.v (.int .i64 ((MO t l)))))]:=by
 have ht0:=ht
 rw[BL] at ht
 have hlen:=hl.1
 refine CM call30 func30 ntmps30 results30 fun hw=>?_
 simp only[go_sem]
 refine CW (Jc t ht.1 ht.2) fun _=>?_
 simp only[go_sem,ae,AU,AL]
 refine LoopH.mk [12] (A:=Nat×DTable) (fun x=>[(15,.c (.v (.int .i64 (x.1))))]) (fun x=>[⟨37,2,[[.sl (t.cols.map intC),.sl (t.l.map DRow.c)]],true,true⟩,⟨37,2,[[.v (.slice none 0 0),.v (.slice none 0 0)]],true,true⟩,⟨3,1,x.2.cols.map intC,true,true⟩,⟨147,2,x.2.l.map DRow.o,true,true⟩,⟨37,2,[[.ref 2,.ref 3]],true,true⟩]) (uM t l) (fun x=>l.length-x.1) (0,t) (Head.sel [(0,false),(1,true),(2,false),(3,true),(4,true)] ⟨rfl,rfl,rfl,rfl,AP TQ,Fb (AL _),rfl,trivial⟩ (by
  show (⟨35,_,[_,_,_,⟨147,2,(t.l.map DRow.o).map (fun x=>x.map (P9 [(0,false),(1,true),(2,false),(3,true),(4,true)])),true,true⟩,_]⟩:MS)=_
  rw[Fa (AL t.l)]; rfl)) ⟨aJ _,ht0,by simp,rfl,by simp⟩ ?_
 rintro⟨k,u⟩ ⟨hk,hu,hul,hbT,hbN⟩
 dsimp only at hk hu hul hbT hbN
 simp only[go_sem,ae]
 refine cndC.mk (fun h=>?_) (fun h=>?_)
 ·have hk':k<l.length:=by simpa using h
  have hroomu:DT u=true→u.l.length+1≤1048576:=fun _=>by omega
  have hd:=hl.2 _ (au hk')
  simp only[go_sem,ae,AA _ hk',hk']
  refine BorK.mk (args:=[.agg u.c,.agg l[k].c]) [.agg (JF u l[k]).o,.val (.c (.v (.bool ((AC u l[k]).isSome))))] (by simp only[I4,Ej,Gv,Ij,go_sem]) (by simp only[aS,Mc,MJ,aZ,aH]) (XF u l[k] hu hd hroomu) fun _=>?_
  rcases hr:AC u l[k] with _ | u'
  ·obtain⟨e1,e2⟩:=XH hk' hr
   rw[e1] at hbT
   rw[e2,lG] at hbN
   rw[← hbT,← hbN,AZ hr]
   simp only[go_sem,ae,AA _ hk',hk',aj,AU,AL]
   try simp[Ac,AO]
  ·obtain⟨e1,e2⟩:=XG hk' hr
   rw[e1] at hbT
   rw[e2] at hbN
   have hfit:=MN hu hd hroomu
   rw[Ap hr] at hfit ⊢
   have hlen2:=MP hr
   simp only[go_sem,ae,AA _ hk',hk',aG,AU,AL,wrap_i64 (n:=(k:Int)+1) (by omega) (by omega)]
   exact⟨(k+1,u'),Head.sel [(0,false),(1,true),(6,false),(7,true),(4,true)] ⟨rfl,rfl,rfl,rfl,AP TQ,Fb (AL _),rfl,trivial⟩ (by
    show (⟨35,_,[_,_,_,⟨147,2,(u'.l.map DRow.o).map (fun x=>x.map (P9 [(0,false),(1,true),(6,false),(7,true),(4,true)])),true,true⟩,_]⟩:MS)=_
    rw[Fa (AL u'.l)]; rfl),⟨hk',hfit,by simp only; omega,hbT,by simp only; omega⟩,by simp only; omega⟩
 ·have hk':k=l.length:=by simp at h; omega
  subst hk'
  rw[aP] at hbT hbN
  simp only[allT,MO,lG] at hbT hbN
  rw[← hbT,← hbN]
  simp only[go_sem,ae,AU,AL]
  try simp[Ac,AO]
theorem ZT:∀ (ds:List DDeed) (t:DTable),Bf t→(∀ d∈ds,Cc d)→t.l.length+ds.length≤1048576→Bf (allT t ds)
 | [],t,ht,_,_=>by simp only[allT]; exact ht
 | d::ds,t,ht,hd,hl=>by
  simp only[bQ] at hl
  simp only[allT]
  split
  ·rename_i t' hr
   have h1:=MN ht (hd d (by simp)) (fun _=>by omega)
   rw[Ap hr] at h1
   have h2:=MP hr
   exact ZT ds t' h1 (fun x hx=>hd x (by simp[hx])) (by omega)
  ·exact ht
def I5 (w:DWorld):DTable:=⟨w.c0.cols,[]⟩
theorem Rf (w:DWorld) (hf:Hq w):Ctr prog 5 [.agg w.c] [.val (.agg (allT (I5 w) (MQ w.deeds)).c),.val (.c (.v (.int .i64 ((MO (I5 w) (MQ w.deeds):Nat):Int))))]:=by
 refine CM call5 func5 ntmps5 results5 fun hw=>?_
 rw[GZ,Ho] at hf
 have hd:=Ro hf.2.2.2.2.2.2.2
 have ht:Bf (I5 w):=by rw[BL]; exact⟨hf.1,by simp[I5],by simp[I5]⟩
 simp only[go_sem]
 refine DrawK.mkE ?_
 simp only[go_sem]
 refine CallE.mk _ ((Su w hf.2.2.2.2.2.2.2).valO (FX _)) ?_
 simp only[go_sem]
 refine CallE.mk _ (RY (I5 w) (MQ w.deeds) ht hd (by have:=hd.1; simp[I5]; omega)) ?_
 simp only[go_sem]
theorem Rh (w:DWorld) (hf:Hq w):Ctr prog 7 [.agg w.c] [.agg (allT (I5 w) (MQ w.deeds)).o,.val (.c (.v (.int .i64 ((MO (I5 w) (MQ w.deeds):Nat):Int))))]:=by
 refine CM call7 func7 ntmps7 results7 fun hw=>?_
 rw[GZ,Ho] at hf
 have hd:=Ro hf.2.2.2.2.2.2.2
 have hlen:=hf.2.2.2.2.2.2.2.1
 have ht:Bf (I5 w):=by rw[BL]; exact⟨hf.1,by simp[I5],by simp[I5]⟩
 simp only[go_sem]
 refine CW (We w.deeds hlen) fun _=>?_
 simp only[go_sem,ae]
 refine LoopH.mk [6,7] (A:=Nat×List DDeed) (fun x=>[(12,.c (.v (.int .i64 (x.1)))),(4,.c (.ref 2))]) (fun x=>[⟨49,14,[w.c],true,true⟩,⟨37,2,[[.v (.slice none 0 0),.v (.slice none 0 0)]],true,true⟩,⟨84,25,x.2.map DDeed.c,true,true⟩,⟨3,1,(Gu w.deeds).map intC,true,true⟩]) (fun x=>x.1≤(Gu w.deeds).length∧x.2=Sr w.deeds x.1) (fun x=>(Gu w.deeds).length-x.1) (0,[]) (Head.sel [(0,false),(1,true),(2,false),(3,false)] ⟨rfl,rfl,rfl,rfl,rfl,QG _,trivial⟩ rfl) ⟨aJ _,rfl⟩ ?_
 rintro⟨k,out⟩ ⟨hk,hb⟩
 dsimp only at hk hb
 simp only[go_sem,ae]
 refine cndC.mk (fun h=>?_) (fun h=>?_)
 ·have hk':k<(Gu w.deeds).length:=by simpa using h
  obtain⟨n,e,hn⟩:=oZ hk'
  have hsu:=TY hk' hn e
  rw[← hb] at hsu
  have hll:=Rl w.deeds
  have hol:=Rn w.deeds k
  rw[← hb] at hol
  have hol2:out.length+1≤2147483648:=by omega
  have t1:=EZ hk'
  rw[e] at t1
  have hnr:IK (List.map DDeed.c [w.deeds[n]])=true:=CO (AP DDeed.pure)
  have hap:out.map DDeed.c ++ [DDeed.c w.deeds[n]]=(out ++ [w.deeds[n]]).map DDeed.c:=by simp
  simp only[U9,lF,go_sem] at hnr hap
  simp only[go_sem,ae,t1,hk',AA _ hn,hn,hol2,hnr,hap,ay,wrap_i64 (n:=(k:Int)+1) (by omega) (by omega)]
  exact⟨(k+1,out ++ [w.deeds[n]]),Head.sel [(0,false),(1,true),(5,false),(3,false)] ⟨rfl,rfl,rfl,rfl,AP DDeed.pure,QG _,trivial⟩ rfl,⟨hk',hsu.symm⟩,by simp only; omega⟩
 ·have hk':k=(Gu w.deeds).length:=by simp at h; omega
  subst hk'
  have:out=MQ w.deeds:=hb
  subst this
  have hp:E5 (List.map DDeed.c (MQ w.deeds))=true:=AP DDeed.pure
  simp only[go_sem,hp]
  refine CallK.mk _ (RZ (I5 w) (MQ w.deeds) ht hd (by have:=hd.1; simp[I5]; omega)) fun _=>?_
  simp only[go_sem,AU,AL]
  try simp[Ac,AO]
end Go.Proofs.YtgkmefoghbjfnaaGreat
