/- A part. -/
import Derived.Test.YtnoldekcdlaahaaGreatXa
import Derived.Test.YtnoldekcdlaahaaGreatZf
set_option linter.unusedSimpArgs false
set_option linter.unusedVariables false
set_option maxHeartbeats 4000000
set_option maxRecDepth 10000
open Go.Proofs.Tryz
namespace Go.Proofs.YtnoldekcdlaahaaGreat
open Go.Vm
section
variable {p q r:Prop}
theorem AL0(h:p:=by
 refine AC5 13 9 (by kernel_rfl) ?_
 simp only[go_sem,AA _ hk2,hk2,aH,ai,aj]
 refine ACJ _ (by simpa only[go_sem,QW,cu] using hro) ?_
 rcases h7:decide (t.pc≤5) with _ | _<;>simp only[go_sem,h7,AA _ hk2,hk2,k1]):p:=h
end
@[go_sem] theorem AI6 {n:Nat} {d:Departure}:Region.binds .any ⟨n,.textOnly d⟩=false:=rfl
@[go_sem] theorem AKM {n:Nat} {d:Departure}:Region.binds .any ⟨n,.gcOnly d⟩=false:=rfl
theorem xR {p:Nat→Bool} {n k:Nat} (hk:k<n) (h:p k=true) (hb:∀ i,i<k→p i=false):(List.range n).find? p=some k:=by
 rw[List.find?_range_eq_some]
 exact⟨h,abm.2 hk,fun j hj=>by simp[hb j hj]⟩
theorem Xo {p:Nat→Bool} {n:Nat} (hb:∀ i,i<n→p i=false):(List.range n).find? p=none:=by
 rw[List.find?_eq_none]
 intro x hx
 simp[hb x (abm.1 hx)]
def UB (w:DWorld) (i:Nat):DRef:=(w.d.l[i]?).getD ⟨0,0,0,0,0⟩
theorem PY {w:DWorld} {i:Nat} (h:i<w.d.l.length):UB w i=w.d.l[i]:=by simp[UB,h]
def pw1 (w:DWorld) (i:Nat):Bool:=(Bl w (UB w i)).2&&Nk (Bl w (UB w i)).1 w.t
noncomputable def Yt (w:DWorld) (r:DRef):Int:=if(r.kind==2&&there w r)=true then((C_ w r).length:Int) else -1
noncomputable def rC (w:DWorld) (i:Nat):Bool:=decide (i+1<w.d.l.length)&&(decide (Yt w (UB w i)≥0)&&(decide (Yt w (UB w (i+1))≥0)&&decide (Yt w (UB w i)+Yt w (UB w (i+1))≤12)))
noncomputable def Ei (w:DWorld):Int×Int:=match (List.range w.d.l.length).find? (pw1 w) with
 | some i=>(i,1)
 | none=>match (List.range w.d.l.length).find? (rC w) with
  | some i=>(i,2)
  | none=>(-1,0)
theorem ABY {w:DWorld} (hf:AX w):w.d.l.length≤1048576:=by
 rw[A8] at hf
 have:=hf.2.1
 rw[H_] at this
 exact this
theorem ACu (w:DWorld) (r:DRef) (hf:AX w):(Bl w r).1.l.length≤1048576:=by
 unfold Bl
 rcases DR w r.buf with ⟨k,hk,hb,hat⟩ | ⟨hb,hat⟩
 ·rw[hat]
  have:=(IL hf hk).1
  rw[EE] at this
  dsimp only
  split
  ·exact this.1
  ·simp[FQ]
 ·rw[hat]; simp[FQ]
theorem SA {cs b:List Int} {l:List DRow} (h:DK cs b=some l):Dl cs l=true:=by
 unfold DK at h
 split at h
 ·cases h
 ·split at h
  ·split at h
   ·cases h
   ·split at h
    ·rename_i h2
     cases h
     exact h2.2
    ·cases h
  ·cases h
theorem Oc (w:DWorld) (r:DRef):(C_ w r).length≤12:=by
 unfold C_
 split
 ·simp
 ·rename_i b hb
  rcases h:DK w.c0.cols b.g with _ | l
  ·simp
  ·simp only[aI]
   exact(TI (SA h)).2.1
theorem xU {w:DWorld} {k:Nat} (hk:k<w.d.l.length) (h:pw1 w k=true) (hb:∀ i,i<k→pw1 w i=false):Ei w=((k:Int),1):=by
 unfold Ei
 rw[xR hk h hb]
theorem xW {w:DWorld} {k:Nat} (h0:∀ i,i<w.d.l.length→pw1 w i=false) (hk:k<w.d.l.length) (h:rC w k=true) (hb:∀ i,i<k→rC w i=false):Ei w=((k:Int),2):=by
 unfold Ei
 rw[Xo h0,xR hk h hb]
theorem l_ {w:DWorld} (h0:∀ i,i<w.d.l.length→pw1 w i=false) (hb:∀ i,i<w.d.l.length→rC w i=false):Ei w=(-1,0):=by
 unfold Ei
 rw[Xo h0,Xo hb]
theorem iy (w:DWorld) (hf:AX w):Ctr prog 167 [.agg w.c] [.val (.c (.v (.int .i64 ((Ei w).1)))),.val (.c (.v (.int .i64 ((Ei w).2))))]:=by
 refine CM call167 func167 ntmps167 results167 fun hw=>?_
 have hrl:=ABY hf
 simp only[go_sem]
 refine AB4 1 (A:=Nat) (fun x=>[(16,.c (.v (.int .i64 (x))))]) (fun _=>[⟨44,14,[w.c],true,true⟩]) (fun x=>x≤w.d.l.length∧∀ i,i<x→pw1 w i=false) (fun x=>w.d.l.length-x) 0 ⟨⟨rfl,rfl⟩,rfl,az _,fun i h=>AOh⟩ ?_
 rintro k ⟨hk,hall⟩
 refine AOb (fun h=>?_) fun h=>?_
 ·have hk':k<w.d.l.length:=by simpa using h
  have hp:pw1 w k=((Bl w w.d.l[k]).2&&Nk (Bl w w.d.l[k]).1 w.t):=by unfold pw1; rw[PY hk']
  simp only[go_sem,AA _ hk',hk']
  refine CW (JJ w w.d.l[k]) fun _=>?_
  have hcl:=ACu w w.d.l[k] hf
  generalize (Bl w w.d.l[k]).1=c at hp hcl ⊢
  generalize (Bl w w.d.l[k]).2=ok at hp ⊢
  rcases ok with _ | _
  ·simp only[go_sem,wrap_i64 (n:=(k:Int)+1) AOh AOh]
   exact⟨k+1,⟨rfl,rfl⟩,rfl,⟨hk',fun i h2=>by
    by_cases e:i=k
    ·subst e; rw[hp]; rfl
    ·exact hall i AOh⟩,AOh⟩
  ·simp only[go_sem]
   try refine AAm ?_
   try simp only[go_sem]
   first | refine CY (YT c w.t hcl) ?_ | refine CW (YT c w.t hcl) fun _=>?_
   rcases hc:Nk c w.t with _ | _
   ·simp only[go_sem,hc,wrap_i64 (n:=(k:Int)+1) AOh AOh]
    exact⟨k+1,⟨rfl,rfl⟩,rfl,⟨hk',fun i h2=>by
     by_cases e:i=k
     ·subst e; rw[hp,hc]; rfl
     ·exact hall i AOh⟩,AOh⟩
   ·rw[xU hk' (by rw[hp,hc]; rfl) hall]
    simp only[go_sem,hc]
 ·have hk':k=w.d.l.length:=by simp at h; omega
  subst hk'
  simp only[go_sem]
  refine AB4 1 (A:=Nat) (fun x=>[(8,.c (.v (.int .i64 (x))))]) (fun _=>[⟨44,14,[w.c],true,true⟩]) (fun x=>x≤w.d.l.length∧∀ i,i<x→rC w i=false) (fun x=>w.d.l.length-x) 0 ⟨⟨rfl,rfl⟩,rfl,az _,fun i h=>AOh⟩ ?_
  rintro k ⟨hk,hall2⟩
  simp only[go_sem,wrap_i64 (n:=(k:Int)+1) AOh AOh]
  refine AA0 (fun h=>?_) (fun h=>?_)
  ·have hk':k+1<w.d.l.length:=by simp at h; omega
   have hk0:k<w.d.l.length:=AOh
   have e1:((k:Int)+1)=((k+1:Nat):Int):=AOh
   have hp:rC w k=(decide (Yt w w.d.l[k]≥0)&&(decide (Yt w w.d.l[k+1]≥0)&&decide (Yt w w.d.l[k]+Yt w w.d.l[k+1]≤12))):=by
    unfold rC; rw[PY hk0,PY hk']; simp[hk']
   have hw1:IntKind.i64.wrap ((k+1:Nat):Int)=((k+1:Nat):Int):=wrap_i64 AOh AOh
   have hwk:IntKind.i64.wrap ((k:Int)+1)=(k:Int)+1:=wrap_i64 AOh AOh
   have hn1:rC w k=false→∀ i,i<k+1→rC w i=false:=fun h i h2=>by
    by_cases e:i=k
    ·subst e; exact h
    ·exact hall2 i AOh
   have ga:=Oc w w.d.l[k]
   have gb:=Oc w w.d.l[k+1]
   have sa:=BQ w w.d.l[k]
   have sb:=BQ w w.d.l[k+1]
   have ra:=FD w w.d.l[k] hf
   have rb:=FD w w.d.l[k+1] hf
   have ha:=AA DRef.c hk0
   have hb:=AA DRef.c hk'
   unfold Yt at hp
   generalize w.d.l[k]=a at hp ga sa ra ha
   generalize w.d.l[k+1]=b at hp gb sb rb hb
   simp only[go_sem,e1,hw1,ha,hb]
   refine AC1 13 14 [0,1,2,3,4,5,6,7,8,9,10,11,12,13,14,15,16] [0,1,2,3,4,5,6,7,8,9,10,11,12,14,13,15,16] rfl (by kernel_rfl) (by kernel_rfl) ?_ ?_
   all_goals
    simp only[go_sem]
    refine ABU ?_
    simp only[go_sem,e1,hw1,ha,hb]
    rcases ka:a.kind==2 with _ | _
    ·simp only[go_sem,ka]
     refine AAm ?_
     simp only[go_sem,hwk]
     exact⟨k+1,⟨rfl,rfl⟩,rfl,⟨AOh,hn1 (by rw[hp,ka]; rfl)⟩,AOh⟩
    rcases kb:b.kind==2 with _ | _
    ·simp only[go_sem,ka,kb]
     refine AAm ?_
     simp only[go_sem,hwk]
     exact⟨k+1,⟨rfl,rfl⟩,rfl,⟨AOh,hn1 (by rw[hp,kb]; simp)⟩,AOh⟩
    simp only[go_sem,ka,kb]
    refine CW (sa) fun _=>?_
    rcases ta:there w a with _ | _
    ·simp only[go_sem,ta]
     refine AAm ?_
     simp only[go_sem,hwk]
     exact⟨k+1,⟨rfl,rfl⟩,rfl,⟨AOh,hn1 (by rw[hp,ta]; simp)⟩,AOh⟩
    simp only[go_sem,ta]
    refine CW (sb) fun _=>?_
    rcases tb:there w b with _ | _
    ·simp only[go_sem,tb]
     refine AAm ?_
     simp only[go_sem,hwk]
     exact⟨k+1,⟨rfl,rfl⟩,rfl,⟨AOh,hn1 (by rw[hp,tb]; simp)⟩,AOh⟩
    simp only[go_sem,tb]
    refine AAm ?_
    simp only[go_sem,tb]
    simp only[ka,ta,Bool.and_self,aX] at ra hp
    simp only[kb,tb,Bool.and_self,aX] at rb hp
    refine CY (ra) ?_
    simp only[go_sem,tb]
    refine CY (rb) ?_
    have hp2:rC w k=decide (((C_ w a).length:Int)+(C_ w b).length≤12):=by rw[hp]; simp
    have hw2:IntKind.i64.wrap (((C_ w a).length:Int)+(C_ w b).length)=((C_ w a).length:Int)+(C_ w b).length:=wrap_i64 AOh AOh
    simp only[go_sem,tb,hw2,← hp2]
    rcases hq:rC w k with _ | _
    ·simp only[go_sem,hwk]
     exact⟨k+1,⟨rfl,rfl⟩,rfl,⟨AOh,hn1 hq⟩,AOh⟩
    ·rw[xW hall hk0 hq hall2]
     exact AIk
  ·have hk':w.d.l.length≤k+1:=by simp at h; omega
   rw[l_ hall fun i hi=>by
    by_cases e:i<k
    ·exact hall2 i e
    ·have:¬ (i+1<w.d.l.length):=by omega
     unfold rC
     simp[this]]
   exact AIk
noncomputable def KE (w:DWorld):Nat→Int
 | 0=>-1
 | k+1=>Yt w (UB w k)
theorem AEu (w:DWorld) (r:DRef):Yt w r≤12∧ -1≤Yt w r:=by
 unfold Yt
 have:=Oc w r
 split<;>omega
theorem AEv (w:DWorld) (k:Nat):KE w k≤12∧ -1≤KE w k:=by
 cases k with
 | zero=>simp[KE]
 | succ k=>exact AEu w _
theorem jA (w:DWorld) (hf:AX w):Ctr prog 158 [.agg w.c] [.val (.c (.v (.int .i64 ((Ei w).1)))),.val (.c (.v (.int .i64 ((Ei w).2))))]:=by
 refine CM call158 func158 ntmps158 results158 fun hw=>?_
 have hrl:=ABY hf
 simp only[go_sem]
 refine AB4 1 (A:=Nat) (fun x=>[(4,.c (.v (.int .i64 (x))))]) (fun _=>[⟨44,14,[w.c],true,true⟩]) (fun x=>x≤w.d.l.length∧∀ i,i<x→pw1 w i=false) (fun x=>w.d.l.length-x) 0 ⟨⟨rfl,rfl⟩,rfl,az _,fun i h=>AOh⟩ ?_
 rintro k ⟨hk,hall⟩
 refine AOb (fun h=>?_) fun h=>?_
 ·have hk':k<w.d.l.length:=by simpa using h
  have hwk:IntKind.i64.wrap ((k:Int)+1)=(k:Int)+1:=wrap_i64 AOh AOh
  have hn1:pw1 w k=false→∀ i,i<k+1→pw1 w i=false:=fun h i h2=>by
   by_cases e:i=k
   ·subst e; exact h
   ·exact hall i AOh
  have hp:pw1 w k=((Bl w w.d.l[k]).2&&Nk (Bl w w.d.l[k]).1 w.t):=by unfold pw1; rw[PY hk']
  have ha:=AA DRef.c hk'
  have sa:=Eu w w.d.l[k]
  generalize w.d.l[k]=a at hp ha sa
  simp only[go_sem,ha]
  refine AAm ?_
  simp only[go_sem,ha]
  rcases ka:a.kind==1 with _ | _
  ·have hc:(Bl w a).2=false:=by
    unfold Bl
    split
    ·rfl
    ·simp[ka]
   simp only[go_sem,ka,hwk]
   exact⟨k+1,⟨rfl,rfl⟩,rfl,⟨hk',hn1 (by rw[hp,hc]; rfl)⟩,AOh⟩
  simp only[go_sem,ka]
  refine CY (sa) ?_
  rcases ta:there w a with _ | _
  ·have hc:(Bl w a).2=false:=by
    unfold Bl
    unfold there at ta
    split
    ·rfl
    ·rename_i b hb
     simp only[hb] at ta
     simp[ta]
   simp only[go_sem,ta,hwk]
   exact⟨k+1,⟨rfl,rfl⟩,rfl,⟨hk',hn1 (by rw[hp,hc]; rfl)⟩,AOh⟩
  obtain⟨q,hq,hb,hat⟩ | ⟨hb,hat⟩:=DR w a.buf
  ·have hc:Bl w a=(w.b[q].c0,true):=by
    unfold Bl
    simp only[there,hat] at ta
    simp[hat,ta,ka]
   have hfb:=(IL hf hq).1
   rw[EE] at hfb
   simp only[go_sem,ta,hb,AA _ hq,hq]
   refine CY (vg w.b[q].c0 w.t hfb.1) ?_
   rcases hw1:Nk w.b[q].c0 w.t with _ | _
   ·simp only[go_sem,hwk]
    exact⟨k+1,⟨rfl,rfl⟩,rfl,⟨hk',hn1 (by rw[hp,hc,hw1]; rfl)⟩,AOh⟩
   ·rw[xU hk' (by rw[hp,hc,hw1]; rfl) hall]
    exact AIk
  ·simp only[there,hat] at ta
   cases ta
 ·have hk':k=w.d.l.length:=by simp at h; omega
  subst hk'
  simp only[go_sem]
  refine AB4 1 (A:=Nat) (fun x=>[(7,.c (.v (.int .i64 (x)))),(6,.c (.v (.int .i64 (KE w x))))]) (fun _=>[⟨44,14,[w.c],true,true⟩]) (fun x=>x≤w.d.l.length∧∀ i,i+1<x→rC w i=false) (fun x=>w.d.l.length-x) 0 ⟨⟨rfl,rfl⟩,rfl,az _,fun i h=>AOh⟩ ?_
  rintro k ⟨hk,hall2⟩
  refine AOb (fun h=>?_) fun h=>?_
  ·have hk':k<w.d.l.length:=by simpa using h
   have hwk:IntKind.i64.wrap ((k:Int)+1)=(k:Int)+1:=wrap_i64 AOh AOh
   have ha:=AA DRef.c hk'
   have sa:=Eu w w.d.l[k]
   have hla:KE w (k+1)=Yt w w.d.l[k]:=by rw[KE,PY hk']
   have hlk:=AEv w k
   have hst:∀ j,k=j+1→rC w j=(decide (KE w k≥0)&&(decide (Yt w w.d.l[k]≥0)&&decide (KE w k+Yt w w.d.l[k]≤12))):=fun j e=>by
    subst e
    unfold rC
    rw[← show KE w (j+1)=Yt w (UB w j) from rfl,PY hk']
    simp[hk']
   generalize w.d.l[k]=a at hla ha sa hst
   have hal:=Oc w a
   have hna:=AEu w a
   have hyes:KE w k≥0→Yt w a≥0→KE w k+Yt w a≤12→Ei w=((k:Int)-1,2):=fun h1 h2 h3=>by
    cases k with
    | zero=>simp[KE] at h1
    | succ j =>
     rw[xW hall (k:=j) AOh (by rw[hst j rfl]; simp[h1,h2,h3]) fun i hi=>hall2 i AOh]
     simp
   have hno:¬ (KE w k≥0∧Yt w a≥0∧KE w k+Yt w a≤12)→∀ i,i+1<k+1→rC w i=false:=fun h3 i hi=>by
    by_cases e:i+1<k
    ·exact hall2 i e
    ·rw[hst i AOh,abr]
     intro h4
     simp only[ay,bf] at h4
     exact h3 h4
   clear hst
   have em:decide ((-1:Int)≥0)=false:=rfl
   simp only[go_sem,ha]
   refine AAm ?_
   simp only[go_sem,ha]
   have hneg:Yt w a = -1→KE w (k+1) = -1∧∀ i,i+1<k+1→rC w i=false:=fun h=>⟨by rw[hla,h],hno (by rw[h]; omega)⟩
   rcases ka:a.kind==2 with _ | _
   ·obtain⟨h1,h2⟩:=hneg (by unfold Yt; rw[ka]; rfl)
    simp only[go_sem,ka,hwk,em]
    exact⟨k+1,⟨rfl,rfl⟩,by rw[h1]; rfl,⟨hk',h2⟩,AOh⟩
   simp only[go_sem,ka,ha]
   refine CY (sa) ?_
   rcases ta:there w a with _ | _
   ·obtain⟨h1,h2⟩:=hneg (by unfold Yt; rw[ta]; simp)
    simp only[go_sem,ta,hwk,em]
    exact⟨k+1,⟨rfl,rfl⟩,by rw[h1]; rfl,⟨hk',h2⟩,AOh⟩
   obtain⟨q,hq,hb,hat⟩ | ⟨hb,hat⟩:=DR w a.buf
   ·have s21:=Kt w a hf hq hb
    have hN:Yt w a=((C_ w a).length:Int):=by unfold Yt; rw[ka,ta]; rfl
    rw[hN] at hyes hno hla
    simp only[go_sem,ta,ha]
    refine AAm ?_
    simp only[go_sem,ta,ha]
    refine CY (s21) ?_
    have e0:decide (((C_ w a).length:Int)≥0)=true:=AOi
    have hl2:IntKind.i64.wrap (KE w k+((C_ w a).length:Int))=KE w k+((C_ w a).length:Int):=wrap_i64 AOh AOh
    simp only[go_sem,e0]
    rcases h1:decide (KE w k≥0) with _ | _
    ·simp only[go_sem,hwk]
     exact⟨k+1,⟨rfl,rfl⟩,by rw[hla]; rfl,⟨hk',hno fun h=>APg⟩,AOh⟩
    simp only[go_sem,hl2]
    rcases h2:decide (KE w k+((C_ w a).length:Int)≤12) with _ | _
    ·simp only[go_sem,hwk]
     exact⟨k+1,⟨rfl,rfl⟩,by rw[hla]; rfl,⟨hk',hno fun h=>AOw⟩,AOh⟩
    ·rw[hyes AO0 AOh APP]
     simp only[go_sem,wrap_i64 (n:=(k:Int)-1) AOh AOh]
   ·simp only[there,hat] at ta
    cases ta
  ·have hk':k=w.d.l.length:=by simp at h; omega
   subst hk'
   rw[l_ hall fun i hi=>by
    by_cases e:i+1<w.d.l.length
    ·exact hall2 i e
    ·unfold rC
     simp[e]]
   exact AIk
theorem QU (t:DTask):Ctr prog 177 [.agg t.c] [.val (.c (.v (.bool (t.op==0))))]:=by
 refine CM call177 func177 ntmps177 results177 fun hw=>?_
 exact AIk
theorem Yu (t:DTask):Ctr prog 228 [.agg t.c] [.val (.c (.v (.bool (looks t))))]:=by
 refine CM call228 func228 ntmps228 results228 fun hw=>?_
 rcases h1:t.op != 0 with _ | _<;>simp only[go_sem,h1,looks,ai,aj]
theorem Yv (t:DTask):Ctr prog 200 [.agg t.c] [.val (.c (.v (.bool (looks t))))]:=by
 refine CM call200 func200 ntmps200 results200 fun hw=>?_
 rcases h1:t.op != 0 with _ | _<;>simp only[go_sem,h1,looks,ai,aj]
def JM (c:DChunk) (i:Int):Bool:=decide (i≥0)&&decide (i<(c.l.length:Int))
theorem Gj (c:DChunk) (i:Int):Ctr prog 261 [.agg c.c,.c (.v (.int .i64 (i)))] [.val (.c (.v (.bool (JM c i))))]:=by
 refine CM call261 func261 ntmps261 results261 fun hw=>?_
 rcases h1:decide (i≥0) with _ | _<;>simp only[go_sem,h1,JM,ai,aj]
theorem ABZ {w:DWorld} {n:Int} (hb:w.b.length≤1048576) (h:Aa n 1 w.b.length=true):∃ m:Nat,∃ hm:m<w.b.length,IntKind.i64.wrap (n-1)=(m:Int)∧(n-1).toNat=m:=by
 simp only[Aa,ay,bf] at h
 refine⟨(n-1).toNat,AOh, ?_,rfl⟩
 rw[wrap_i64 AOh AOh]
 omega
theorem QV (w:DWorld) (t:DTask) (kind:Int) (hf:AX w):Ctr prog 229 [.agg w.c,.agg t.c,.c (.v (.int .i64 (kind)))] [.val (.c (.v (.bool (WR w t kind))))]:=by
 refine CM call229 func229 ntmps229 results229 fun hw=>?_
 unfold WR
 simp only[go_sem]
 refine AAT _ (AL t.own 1 w.b.length) fun _=>?_
 rcases h1:Aa t.own 1 w.b.length with _ | _
 ·exact AMH
 obtain⟨m,hm,e1,e2⟩:=ABZ (xN hf) h1
 simp only[go_sem,h1,e1,e2,AA _ hm,hm,au hm,aj]
theorem Xp {w:DWorld} {r:DRef} (h:there w r=true) (hk:(r.kind==1)=true):∃ m:Nat,∃ hm:m<w.b.length,r.buf=(m:Int)∧(w.b[m].c0.l.length:Int)=r.many:=by
 unfold there at h
 obtain⟨m,hm,hb,hat⟩ | ⟨hb,hat⟩:=DR w r.buf
 ·rw[hat] at h
  refine⟨m,hm,hb, ?_⟩
  have hk1:r.kind=1:=APN
  simp only[MC,hk1,ay,qw] at h
  rcases h.2.2 with h2 | h2
  ·simp at h2
  ·simpa using h2
 ·rw[hat] at h
  cases h
theorem ABa {t:DTask} (h:((t.l.length:Int)==1)=true):∃ h0:0<t.l.length,l0 t=t.l[0]:=by
 have h1:(t.l.length:Int)=1:=ZE.1 h
 refine⟨AOh, ?_⟩
 unfold l0
 rw[List.headD_eq_head?_getD,List.head?_eq_getElem?,au AOh]
 rfl
theorem Xq {w:DWorld} {l:List DRef} (h:l.all (there w)=true) {k:Nat} (hk:k<l.length):there w l[k]=true:=aP.1 h _ (ax hk)
structure TaskIn (w:DWorld) (t:DTask) (d:DDeed) (m:Nat):Prop where
 hm:m<w.deeds.length
 hd:w.deeds[m]=d
 ht:t.h=m
 ft:GG t
 fd:Fj d
 th:t.l.all (there w)=true
 i0:0≤t.i
 j0:0≤t.j
 fr:∀ r∈t.l,Ed r=true
theorem LQ (w:DWorld) (t:DTask) (d:DDeed) {m:Nat} (hf:AX w) (H:TaskIn w t d m):Ctr prog 230 [.agg w.c,.agg t.c] [.val (.c (.v (.bool (AEp w t d))))]:=by
 obtain⟨hm,hd,ht,hft,hfd,hth,hi,hj,hfr⟩:=H
 refine CM call230 func230 ntmps230 results230 fun hw=>?_
 rw[EC] at hft
 rw[Hg] at hfd
 unfold AEp
 simp only[go_sem]
 try refine AAm ?_
 try simp only[go_sem]
 first | refine AB5 _ (Pe w.c0.cols t.r) ?_ | refine AAT _ (Pe w.c0.cols t.r) fun _=>?_
 rcases h1:fits w.c0.cols t.r with _ | _
 ·exact AMH
 simp only[go_sem,h1,ht,AA _ hm,hm,hd,aj]
 try refine AAm ?_
 try simp only[go_sem,h1,ht,AA _ hm,hm,hd]
 first | refine AB5 _ (Qn t.r d.r hft.1.1 hfd.1.1) ?_ | refine AAT _ (Qn t.r d.r hft.1.1 hfd.1.1) fun _=>?_
 rcases h2:NP t.r d.r with _ | _
 ·simp only[go_sem,h2,ai]
 simp only[go_sem,h2,aj]
 try refine AAm ?_
 try simp only[go_sem]
 first | refine AB5 _ (AL t.pc 2 4) ?_ | refine AAT _ (AL t.pc 2 4) fun _=>?_
 by_cases hq:(!Aa t.pc 2 4 && !Aa t.pc 6 7)=true
 ·rw[hq,cZ]
  simp only[ay,aa4] at hq
  simp only[go_sem,hq.1]
  try refine AAm ?_
  try simp only[go_sem,hq.1]
  first | refine AB5 _ (AL t.pc 6 7) ?_ | refine AAT _ (AL t.pc 6 7) fun _=>?_
  simp only[go_sem,hq.2]
 have hq2:(!Aa t.pc 2 4 && !Aa t.pc 6 7)=false:=APc
 rw[hq2,bT]
 have hc:Aa t.pc 2 4=true∨(Aa t.pc 2 4=false∧Aa t.pc 6 7=true):=by
  rcases h3:Aa t.pc 2 4 with _ | _
  ·rw[h3] at hq2
   exact .inr ⟨rfl,by simpa using hq2⟩
  ·exact .inl rfl
 rcases hc with h3 | ⟨h3,h4⟩
 rotate_left
 simp only[go_sem,h3]
 try refine AAm ?_
 try simp only[go_sem,h3]
 first | refine AB5 _ (AL t.pc 6 7) ?_ | refine AAT _ (AL t.pc 6 7) fun _=>?_
 simp only[go_sem,h4]
 rotate_left
 simp only[go_sem,h3]
 all_goals
  rcases h5:((t.l.length:Int)==1) with _ | _
  ·exact AKX
  have g5:((t.l.length:Int) != 1)=false:=AP8
  obtain⟨h0,hl0⟩:=ABa h5
  rw[hl0,aj]
  rcases h6:t.l[0].kind==1 with _ | _
  ·exact AMZ
  have g6:(t.l[0].kind != 1)=false:=by simp[bne,h6]
  obtain⟨q,hq,hqb,hqm⟩:=Xp (Xq hth h0) h6
  have hsl:JM w.b[q].c0 t.i=decide (t.i<t.l[0].many):=by
   have e:decide (t.i≥0)=true:=by simpa using hi
   unfold JM
   rw[e,hqm,aj]
  simp only[go_sem,g5,g6,AA _ h0,h0,aj]
  try refine AAm ?_
  try simp only[go_sem,g5,g6,AA _ h0,h0]
  rcases h7:t.pc==2 with _ | _
  ·simp only[go_sem,h7,AA _ h0,h0,hqb,AA _ hq,hq,bT]
   try refine AAm ?_
   try simp only[go_sem,h7,AA _ h0,h0,hqb,AA _ hq,hq]
   first | refine CY (Gj w.b[q].c0 t.i) ?_ | refine CW (Gj w.b[q].c0 t.i) fun _=>?_
   simp only[go_sem,hsl]
  ·simp only[go_sem,h7,cZ]
   try refine AAm ?_
   try simp only[go_sem,h7]
theorem SB (w:DWorld) (t:DTask) (d:DDeed) {m:Nat} (hf:AX w) (H:TaskIn w t d m):Ctr prog 231 [.agg w.c,.agg t.c] [.val (.c (.v (.bool (lh w t d))))]:=by
 obtain⟨hm,hd,ht,hft,hfd,hth,hi,hj,hfr⟩:=H
 refine CM call231 func231 ntmps231 results231 fun hw=>?_
 unfold lh
 rcases h1:t.id==d.id with _ | _
 ·have g1:(t.id != d.id)=true:=by simp[bne,h1]
  simp only[go_sem,ht,AA _ hm,hm,hd,g1,ai]
  try refine AAm ?_
  try simp only[go_sem,ht,AA _ hm,hm,hd,g1]
 have g1:(t.id != d.id)=false:=AQC
 simp only[go_sem,ht,AA _ hm,hm,hd,g1,aj]
 try refine AAm ?_
 try simp only[go_sem,ht,AA _ hm,hm,hd,g1]
 try refine AAm ?_
 try simp only[go_sem]
 first | refine AB5 _ (AL t.pc 2 7) ?_ | refine AAT _ (AL t.pc 2 7) fun _=>?_
 rcases h2:Aa t.pc 2 7 with _ | _
 ·simp only[go_sem,h2,aK,cZ]
 simp only[go_sem,h2,aJ,bT]
 rcases h5:((t.l.length:Int)==1) with _ | _
 ·exact AKX
 have g5:((t.l.length:Int) != 1)=false:=AP8
 obtain⟨h0,hl0⟩:=ABa h5
 rw[hl0,aj]
 try refine AAm ?_
 try simp only[go_sem,g5,AA _ h0,h0]
 first | refine CY (D7 t.l[0] t.id) ?_ | refine CW (D7 t.l[0] t.id) fun _=>?_
 rcases h6:Az t.l[0] t.id with _ | _
 ·simp only[go_sem,h6,ai]
 rcases h7:decide (t.id<(w.m.length:Int)) with _ | _
 ·have g7:decide (t.id≥(w.m.length:Int))=true:=by simp at h7 ⊢; omega
  simp only[go_sem,h6,g7,ai,aj]
 have g7:decide (t.id≥(w.m.length:Int))=false:=by simp at h7 ⊢; omega
 simp only[go_sem,h6,g7,aj]
 try refine AAm ?_
 try simp only[go_sem]
 first | refine AB5 _ (AL t.pc 3 4) ?_ | refine AAT _ (AL t.pc 3 4) fun _=>?_
 rcases h8:Aa t.pc 3 4 with _ | _
 ·simp only[go_sem,h8,aK,cZ]
 ·simp only[go_sem,h8,AA _ h0,h0,aJ,bT]
def QW:DRow:=⟨0,[]⟩
theorem qm (w:DWorld) (r:DRef) {q m:Nat} (hf:AX w) (hq:q<w.b.length) (hb:r.buf=(q:Int)) (hth:there w r=true) (hk:(r.kind==1)=true) (hm:m<w.b[q].c0.l.length) :
  Ctr prog 313 [.agg w.c,.agg r.c,.c (.v (.int .i64 ((m:Int))))] [.agg (DRow.o ⟨IntKind.i64.wrap (r.first+m),w.b[q].c0.l[m].l⟩),.val (.c (.v (.bool (true))))]:=by
 have hat:=xO hb hq
 have hc:Bl w r=(w.b[q].c0,true):=by
  unfold Bl
  simp only[there,hat] at hth
  simp[hat,hth,hk]
 have hco:=JJ w r
 rw[hc] at hco
 have hfl:w.b[q].c0.l[m].l.length≤1048576:=by
  have:=PX hf hq
  rw[H9,EE] at this
  have h2:=this.1.2 _ (ax hm)
  rw[KU] at h2
  exact h2.1
 refine CM call313 func313 ntmps313 results313 fun hw=>?_
 simp only[go_sem]
 try refine AAm ?_
 try simp only[go_sem]
 first | refine CY (hco) ?_ | refine CW (hco) fun _=>?_
 simp only[go_sem]
 try refine AAm ?_
 try simp only[go_sem]
 first | refine CY (Gj w.b[q].c0 (m:Int)) ?_ | refine CW (Gj w.b[q].c0 (m:Int)) fun _=>?_
 have hs:JM w.b[q].c0 (m:Int)=true:=by simp[JM]; exact hm
 simp only[go_sem,hs,AA _ hm,hm]
 refine ABU ?_
 simp only[go_sem,hs,AA _ hm,hm]
 refine ACJ _ (Gx w.b[q].c0.l[m].l hfl) ?_
 simp only[go_sem,DD,AA _ hm,hm]
 try exact AIj
theorem ACv (w:DWorld) (r:DRef) (j:Int) (hf:AX w) (hth:there w r=true) (hk:(r.kind==1)=true) (hm:decide (j<r.many)=false) :
  Ctr prog 313 [.agg w.c,.agg r.c,.c (.v (.int .i64 (j)))] [.val (.agg QW.c),.val (.c (.v (.bool (false))))]:=by
 obtain⟨q,hq,hb,hmn⟩:=Xp hth hk
 have hat:=xO hb hq
 have hc:Bl w r=(w.b[q].c0,true):=by
  unfold Bl
  simp only[there,hat] at hth
  simp[hat,hth,hk]
 have hco:=JJ w r
 rw[hc] at hco
 have hk2:(r.kind==2)=false:=by have:r.kind=1:=APN; rw[this]; rfl
 have hgr:=FD w r hf
 rw[hk2,ai] at hgr
 refine CM call313 func313 ntmps313 results313 fun hw=>?_
 simp only[go_sem]
 try refine AAm ?_
 try simp only[go_sem]
 first | refine CY (hco) ?_ | refine CW (hco) fun _=>?_
 simp only[go_sem]
 try refine AAm ?_
 try simp only[go_sem]
 first | refine CY (Gj w.b[q].c0 j) ?_ | refine CW (Gj w.b[q].c0 j) fun _=>?_
 have hs:JM w.b[q].c0 j=false:=by unfold JM; rw[hmn,hm,aH]
 simp only[go_sem,hs]
 try refine AAm ?_
 try simp only[go_sem,hs]
 first | refine AB5 _ (by simpa only[go_sem,cu,aC,aW] using hgr) ?_ | refine AAT _ (by simpa only[go_sem,cu,aC,aW] using hgr) fun _=>?_
 rcases h0:decide (j≥0) with _ | _
 ·simp only[go_sem,h0,QW,cu]
 have e1:decide (j<0)=false:=by simp at h0 ⊢; omega
 have e2:decide (j<(((0:Nat)):Int))=false:=e1
 simp only[go_sem,h0,y7,abI,e1,e2,QW,cu]
theorem AAO (w:DWorld) (r:DRef) (j:Int) (hf:AX w) (hth:there w r=true) (hk:(r.kind==1)=false) (hk2:(r.kind==2)=true) (h0:0≤j) :
  Ctr prog 313 [.agg w.c,.agg r.c,.c (.v (.int .i64 (j)))] (match (C_ w r)[j.toNat]? with
   | none=>[.val (.agg QW.c),.val (.c (.v (.bool (false))))]
   | some x=>[.val (.agg x.c),.val (.c (.v (.bool (true))))]):=by
 have hc:Bl w r=(FQ,false):=by
  unfold Bl
  split
  ·rfl
  ·simp[hk]
 have hco:=JJ w r
 rw[hc] at hco
 have hgr:=FD w r hf
 rw[hk2,hth] at hgr
 have hgl:=Oc w r
 refine CM call313 func313 ntmps313 results313 fun hw=>?_
 simp only[go_sem]
 try refine AAm ?_
 try simp only[go_sem]
 first | refine AB5 _ (by simpa only[go_sem,FQ,cu] using hco) ?_ | refine AAT _ (by simpa only[go_sem,FQ,cu] using hco) fun _=>?_
 simp only[go_sem]
 try refine AAm ?_
 try simp only[go_sem]
 first | refine AB5 _ (by simpa only[go_sem,aj,aX] using hgr) ?_ | refine AAT _ (by simpa only[go_sem,aj,aX] using hgr) fun _=>?_
 have e0:decide (j≥0)=true:=APU
 rcases bQ j.toNat (C_ w r).length with hm | hm
 ·obtain⟨m,rfl⟩:=aO h0
  have hm:m<(C_ w r).length:=by simpa using hm
  have e1:decide ((m:Int)<((C_ w r).length:Int))=true:=AOj
  rw[bH,au hm]
  simp only[go_sem,e0,e1,AA _ hm,hm]
 ·have e1:decide (j<((C_ w r).length:Int))=false:=by simp; omega
  rw[uU hm]
  simp only[go_sem,e0,e1,QW,cu]
theorem AGQ {w:DWorld} (hf:AX w):w.c0.cols.length≤1048576:=by
 rw[A8,IZ] at hf
 exact hf.1
theorem jB {r:DRef} (h:Ed r=true) (hk:(r.kind==1)=false):(r.kind==2)=true:=by
 simp only[Ed,Aa,ay,bf] at h
 have:r.kind≠1:=APN
 have:=h.2.2.1
 simp; omega
theorem SC (w:DWorld) (t:DTask) (d:DDeed) {m:Nat} (hf:AX w) (H:TaskIn w t d m):Ctr prog 232 [.agg w.c,.agg t.c] [.val (.c (.v (.bool (xJ w t d))))]:=by
 obtain⟨hm,hd,ht,hft,hfd,hth,hi,hj,hfr⟩:=H
 refine CM call232 func232 ntmps232 results232 fun hw=>?_
 rw[EC] at hft
 rw[Hg] at hfd
 unfold xJ
 simp only[go_sem]
 try refine AAm ?_
 try simp only[go_sem]
 first | refine CY (T_ w.c0.cols t.q (AGQ hf) hft.2.1) ?_ | refine CW (T_ w.c0.cols t.q (AGQ hf) hft.2.1) fun _=>?_
 rcases h1:Bo w.c0.cols t.q with _ | _
 ·exact AMH
 simp only[go_sem,h1,ht,AA _ hm,hm,hd,aj]
 try refine AAm ?_
 try simp only[go_sem,h1,ht,AA _ hm,hm,hd]
 first | refine CY (Ro t.q d.q hft.2.1 hfd.2.1) ?_ | refine CW (Ro t.q d.q hft.2.1 hfd.2.1) fun _=>?_
 rcases h2:WP t.q d.q with _ | _
 ·simp only[go_sem,h2,ai]
 rcases h3:decide (t.ts>w.t) with _ | _
 rotate_left
 ·simp only[go_sem,h2,h3,aJ,ai,aH]
 simp only[go_sem,h2,h3,aK,aj]
 try refine AAm ?_
 try simp only[go_sem]
 first | refine AB5 _ (AL t.pc 3 8) ?_ | refine AAT _ (AL t.pc 3 8) fun _=>?_
 rcases h4:Aa t.pc 3 8 with _ | _
 ·simp only[go_sem,h4,aK,cZ]
 rcases h5:decide (t.i>(t.l.length:Int)) with _ | _
 rotate_left
 ·simp only[go_sem,h4,h5,aJ,ai,bT]
  try refine AAm ?_
  try simp only[go_sem,h5]
 simp only[go_sem,h4,h5,aJ,aK,aj,bT]
 try refine AAm ?_
 try simp only[go_sem,h5]
 rcases h6:t.pc==3 with _ | _
 rotate_left
 ·simp only[go_sem,h6,cZ]
 obtain⟨k,hk⟩:=aO hi
 have hkl:k≤t.l.length:=by rw[hk] at h5; simp at h5; omega
 rw[hk,bH,bT]
 rcases bQ k t.l.length with hk2 | hk2
 rotate_left
 ·have e:k=t.l.length:=by omega
  have e2:((k:Int)==(t.l.length:Int))=true:=AOj
  rw[uU hk2]
  simp only[go_sem,h6,hk,e2]
  try refine AAm ?_
  try simp only[go_sem,h6,hk,e2]
 have e2:((k:Int)==(t.l.length:Int))=false:=AOj
 rw[au hk2]
 simp only[go_sem,h6,hk,e2]
 have hthk:=Xq hth hk2
 unfold qg
 rcases k1:t.l[k].kind==1 with _ | _
 ·have kk2:=jB (hfr _ (ax hk2)) k1
  have hro:=AAO w t.l[k] t.j hf hthk k1 kk2 hj
  simp only[aC,aW]
  rcases hg:(C_ w t.l[k])[t.j.toNat]? with _ | x
  ·rw[hg] at hro
   exact AL0
  ·rw[hg] at hro
   refine AC5 13 9 (by kernel_rfl) ?_
   simp only[go_sem,AA _ hk2,hk2,aH,ai,aj]
   refine CZ (hro) ?_
   rcases h7:decide (t.pc≤5) with _ | _
   ·have h8:decide (t.pc≥6)=true:=by simp at h7 ⊢; omega
    simp only[go_sem,h7,h8,AA _ hk2,hk2,aj]
    try refine AAm ?_
    try simp only[go_sem,h7,h8]
   ·have h8:decide (t.pc≥6)=false:=by simp at h7 ⊢; omega
    simp only[go_sem,h7,h8,AA _ hk2,hk2,k1,ai]
    try refine AAm ?_
    try simp only[go_sem,h7,h8,AA _ hk2,hk2,k1]
 ·obtain⟨q,hq,hqb,hqm⟩:=Xp hthk k1
  simp only[aX]
  rcases h9:decide (t.j<t.l[k].many) with _ | _
  ·have hro:=ACv w t.l[k] t.j hf hthk k1 h9
   exact AL0
  ·obtain⟨j,hjj⟩:=aO hj
   have hjl:j<w.b[q].c0.l.length:=by rw[hjj,← hqm] at h9; simp at h9; omega
   have hro:=(qm w t.l[k] hf hq hqb hthk k1 hjl).frz
   simp only[YG,cu,dV,DRow.o_er] at hro
   rw[hjj]
   refine AC5 13 9 (by kernel_rfl) ?_
   simp only[go_sem,AA _ hk2,hk2,hjj,aH,ai,aj]
   refine CZ (hro) ?_
   rcases h7:decide (t.pc≤5) with _ | _
   ·have h8:decide (t.pc<6)=false:=by simp at h7 ⊢; omega
    simp only[go_sem,h7,h8,AA _ hk2,hk2,bT]
    try refine AAm ?_
    try simp only[go_sem,h7,h8]
   ·have h8:decide (t.pc<6)=true:=by simp at h7 ⊢; omega
    simp only[go_sem,h7,h8,AA _ hk2,hk2,k1,cZ]
    try refine AAm ?_
    try simp only[go_sem,h7,h8,AA _ hk2,hk2,k1]
def jC (t:DTask) (h:Int):List Cl:=[.v (.int .i64 t.op),.v (.int .i64 t.pc),.v (.int .i64 h),.sl (t.r.map DVal.c),.v (.int .i64 t.id),.v (.int .i64 t.q.kind),.v (.int .i64 t.q.p.kind),.v (.int .i64 t.q.p.col),.v (.int .i64 t.q.p.op),.v (.int .i64 t.q.p.v.ty),.v (.int .i64 t.q.p.v.n),.v (.string t.q.p.v.s),.sl (t.q.p.l.map DPred.c),.v (.int .i64 t.q.col),.sl (t.q.out.map intC),.v (.int .i64 t.ts),.v (.int .i64 t.ver),.sl (t.l.map DRef.c),.v (.int .i64 t.i),.v (.int .i64 t.j),.v (.int .i64 t.s),.v (.int .i64 t.at0),.v (.int .i64 t.own),.v (.bool t.won),.sl (t.got.map DRow.c)]
@[go_sem] theorem AG8 (t:DTask) (h:Int):jC t h = [.v (.int .i64 t.op),.v (.int .i64 t.pc),.v (.int .i64 h),.sl (t.r.map DVal.c),.v (.int .i64 t.id),.v (.int .i64 t.q.kind),.v (.int .i64 t.q.p.kind),.v (.int .i64 t.q.p.col),.v (.int .i64 t.q.p.op),.v (.int .i64 t.q.p.v.ty),.v (.int .i64 t.q.p.v.n),.v (.string t.q.p.v.s),.sl (t.q.p.l.map DPred.c),.v (.int .i64 t.q.col),.sl (t.q.out.map intC),.v (.int .i64 t.ts),.v (.int .i64 t.ver),.sl (t.l.map DRef.c),.v (.int .i64 t.i),.v (.int .i64 t.j),.v (.int .i64 t.s),.v (.int .i64 t.at0),.v (.int .i64 t.own),.v (.bool t.won),.sl (t.got.map DRow.c)]:=rfl
theorem mD {t:DTask} {k:Int} (h:IJ t k=true):0≤t.h∧0≤t.i∧0≤t.j∧(∀ r∈t.l,Ed r=true)∧((t.op==0)=true→(t.own==0)=true):=by
 simp only[IJ,ay] at h
 obtain⟨_,_,_,_,h5,h6,_,h8⟩:=h
 simp only[numsL,bC,bU,CE,ay,aa4,aaL] at h5
 refine⟨AOh,AOh,AOh,fun r hr=>?_,fun h0=>?_⟩
 ·have:=aP.1 h6 r hr
  simp only[GX,ay] at this
  exact this.1
 ·have e:(t.op != 0)=false:=by simp[bne,h0]
  rw[e,bT] at h8
  simp only[C9,ay] at h8
  exact h8.2.2.2.2.2.2.2.2.2.2.2.2.1
theorem jD {w:DWorld} (hf:AX w) {k:Nat} (hk:k<w.tasks.length):GG w.tasks[k]:=by
 rw[A8] at hf
 exact hf.2.2.2.2.2.2.1.2 _ (ax hk)
theorem jE {w:DWorld} (hf:AX w) {k:Nat} (hk:k<w.deeds.length):Fj w.deeds[k]:=by
 rw[A8] at hf
 exact hf.2.2.2.2.2.2.2.2 _ (ax hk)
theorem SE (w:DWorld) (k:Nat) (hf:AX w) (hk:k<w.tasks.length) (hp:k<w.p.length):Ctr prog 109 [.agg w.c,.c (.v (.int .i64 ((k:Int))))] [.val (.c (.v (.bool (PW w k w.tasks[k] w.p[k]))))]:=by
 have hft:=jD hf hk
 have hft2:=hft
 rw[EC] at hft2
 have hlt:=hft2.2.2.1
 have hld:=ABW hf
 have hlb:=xN hf
 refine CM call109 func109 ntmps109 results109 fun hw=>?_
 generalize ht:w.tasks[k]=t at hft hft2 hlt
 unfold PW
 simp only[go_sem,AA _ hk,hk,ht]
 try refine AAm ?_
 try simp only[go_sem,AA _ hk,hk,ht]
 first | refine CY (WA t k hft) ?_ | refine CW (WA t k hft) fun _=>?_
 rcases h1:IJ t k with _ | _
 ·exact AMH
 obtain⟨g1,g2,g3,g4,g5⟩:=mD h1
 simp only[go_sem,h1,AA _ hp,hp,aj]
 try refine AAm ?_
 try simp only[go_sem,h1,AA _ hp,hp]
 first | refine CY (Yu t) ?_ | refine CW (Yu t) fun _=>?_
 rcases h2:((w.p[k] != -1)==looks t) with _ | _
 ·simp only[go_sem,h2,aK,ai]
 simp only[go_sem,h2,aJ,aj]
 try refine AAm ?_
 try simp only[go_sem,h2]
 first | refine CY (QU t) ?_ | refine CW (QU t) fun _=>?_
 rcases h3:t.op==0 with _ | _
 rotate_left
 ·simp only[go_sem,h3,cZ]
 simp only[go_sem,h3,bT]
 obtain⟨m,hm⟩:=aO g1
 unfold WS
 rw[hm,bH]
 rcases bQ m w.deeds.length with hml | hml
 rotate_left
 ·exact AMV
 have e1:decide ((m:Int)≥(w.deeds.length:Int))=false:=AOj
 rw[au hml]
 generalize hd:w.deeds[m]=d
 have hfd:Fj d:=hd▸jE hf hml
 rcases h4:Yo k t d with _ | _
 ·simp only[h4,ai]
  unfold Yo at h4
  rcases k1:d.task==(k:Int) with _ | _
  ·have j1:(d.task != (k:Int))=true:=by simp[bne,k1]
   try simp only[go_sem,hm,e1,AA _ hml,hml,hd,j1]
   try refine AAm ?_
   try simp only[go_sem,hm,e1,AA _ hml,hml,hd,j1]
  have j1:(d.task != (k:Int))=false:=by simp[bne,k1]
  rcases k2:d.op==t.op with _ | _
  ·have j2:(d.op != t.op)=true:=by simp[bne,k2]
   try simp only[go_sem,hm,e1,AA _ hml,hml,hd,j1,j2]
   try refine AAm ?_
   try simp only[go_sem,hm,e1,AA _ hml,hml,hd,j1,j2]
  have j2:(d.op != t.op)=false:=by simp[bne,k2]
  rw[k1,k2,aj,aj] at h4
  have j3:(d.ret != -1)=true:=by simp[bne,h4]
  try simp only[go_sem,hm,e1,AA _ hml,hml,hd,j1,j2,j3]
  try refine AAm ?_
  try simp only[go_sem,hm,e1,AA _ hml,hml,hd,j1,j2,j3]
 simp only[h4,aj]
 have h4b:=h4
 simp only[Yo,ay] at h4b
 have j1:(d.task != (k:Int))=false:=by simp only[bne,h4b.1,aJ]
 have j2:(d.op != t.op)=false:=by simp only[bne,h4b.2.1,aJ]
 have j3:(d.ret != -1)=false:=by simp only[bne,h4b.2.2,aJ]
 try simp only[go_sem,hm,e1,AA _ hml,hml,hd,j1,j2,j3]
 try refine AAm ?_
 try simp only[go_sem,hm,e1,AA _ hml,hml,hd,j1,j2,j3]
 refine AB4 2 (A:=Nat) (fun x=>[(72,.c (.v (.int .i64 (x))))]) (fun _=>[⟨44,14,[w.c],true,true⟩,⟨72,25,[jC t (m:Int)],true,true⟩]) (Ea t.l (there w)) (fun x=>t.l.length-x) 0 ⟨⟨rfl,rfl⟩,rfl,Ce⟩ ?_
 intro j hj
 refine AOb (fun h=>?_) fun h=>?_
 ·have hj':j<t.l.length:=by simpa using h
  simp only[go_sem,AA _ hj',hj']
  try refine AAm ?_
  try simp only[go_sem,AA _ hj',hj']
  first | refine CY (BQ w t.l[j]) ?_ | refine CW (BQ w t.l[j]) fun _=>?_
  rcases h5:there w t.l[j] with _ | _
  ·simp only[go_sem,h5,BH (p:=there w) hj' h5,ai]
  ·exact ANA
 have hj':j=t.l.length:=AO9
 subst hj'
 have hth:=CV hj
 rw[hth,aj]
 have HT:TaskIn w t d m:=⟨hml,hd,hm,hft,hfd,hth,g2,g3,g4⟩
 unfold ownB swB
 rcases o1:t.op==1 with _ | _
 rotate_left
 ·have o4:(t.op==4)=false:=by
   have:t.op=1:=by simpa using o1
   rw[this]; rfl
  simp only[o1,o4,aj,aX,ai,aC,aW]
  rcases p8:t.pc==8 with _ | _
  ·simp only[aC,aW]
   rcases w0:t.own==0 with _ | _
   ·have j0:(t.own != 0)=true:=by simp[bne,w0]
    simp only[go_sem,o1,o4,p8,j0,ai]
   have j0:(t.own != 0)=false:=by simp[bne,w0]
   simp only[go_sem,o1,o4,p8,j0,aj]
   try refine AAm ?_
   try simp only[go_sem,o1,p8]
   first | refine AB5 _ APJ ?_ | refine AAT _ APJ fun _=>?_
   exact AIk
  ·simp only[aX]
   simp only[go_sem,o1,p8]
   try refine AAm ?_
   try simp only[go_sem,o1,p8]
   first | refine AB5 _ (by simpa only[go_sem,hm] using QV w t 1 hf) ?_ | refine AAT _ (by simpa only[go_sem,hm] using QV w t 1 hf) fun _=>?_
   rcases q1:WR w t 1 with _ | _
   ·simp only[go_sem,q1,ai]
   have hin:Aa t.own 1 w.b.length=true:=by
    unfold WR at q1
    rw[ay] at q1
    exact q1.1
   obtain⟨q,hq,e3,e4⟩:=ABZ hlb hin
   have hol:iT w t=(w.b[q].c0.l.length:Int):=by unfold iT; rw[e4,au hq]
   rw[hol]
   rcases l1:((w.b[q].c0.l.length:Int)==w.c0.slots) with _ | _
   ·have j1:((w.b[q].c0.l.length:Int) != w.c0.slots)=true:=by simp only[bne,l1,aK]
    simp only[go_sem,q1,e3,AA _ hq,hq,j1,aj,ai]
   have j1:((w.b[q].c0.l.length:Int) != w.c0.slots)=false:=by simp only[bne,l1,aJ]
   simp only[go_sem,q1,e3,AA _ hq,hq,j1,o1,aj]
   try refine AAm ?_
   try simp only[go_sem,o1]
   first | refine AB5 _ APJ ?_ | refine AAT _ APJ fun _=>?_
   exact AIk
 simp only[o1,ai,aC,aW]
 rcases o4:t.op==4 with _ | _
 ·simp only[ai,aC,aW]
  rcases w0:t.own==0 with _ | _
  ·have j0:(t.own != 0)=true:=by simp[bne,w0]
   simp only[go_sem,o1,o4,j0,ai]
  have j0:(t.own != 0)=false:=by simp[bne,w0]
  rcases o2:t.op==2 with _ | _
  rotate_left
  ·simp only[aX,aj]
   simp only[go_sem,o1,o4,o2,j0]
   try refine AAm ?_
   try simp only[go_sem,o1,o2]
   first | refine AB5 _ (by simpa only[go_sem,hm] using SB w t d hf HT) ?_ | refine AAT _ (by simpa only[go_sem,hm] using SB w t d hf HT) fun _=>?_
   exact AIk
  rcases o3:t.op==3 with _ | _
  rotate_left
  ·simp only[aC,aW,aX,aj]
   simp only[go_sem,o1,o4,o2,o3,j0]
   try refine AAm ?_
   try simp only[go_sem,o1,o2,o3]
   first | refine AB5 _ (by simpa only[go_sem,hm] using SC w t d hf HT) ?_ | refine AAT _ (by simpa only[go_sem,hm] using SC w t d hf HT) fun _=>?_
   exact AIk
  simp only[aC,aW,aj]
  simp only[go_sem,o1,o4,o2,o3,j0]
  unfold ABV
  try refine AAm ?_
  try simp only[go_sem,o1,o4,o2,o3,j0]
  exact AIe
 ·have o2:(t.op==2)=false:=by
   have:t.op=4:=by simpa using o4
   rw[this]; rfl
  have o3:(t.op==3)=false:=by
   have:t.op=4:=by simpa using o4
   rw[this]; rfl
  simp only[o2,o3,aj,aC,aW]
  have e45:Aa t.pc 4 5=((t.pc==4)||(t.pc==5)):=by
   unfold Aa
   rcases p4:t.pc==4 with _ | _
   ·rcases p5:t.pc==5 with _ | _
    ·simp at p4 p5 ⊢; omega
    ·simp at p5 ⊢; omega
   ·simp at p4 ⊢; omega
  unfold ABV
  rcases h45:Aa t.pc 4 5 with _ | _
  ·rw[h45] at e45
   have p4:(t.pc==4)=false:=by rcases p:t.pc==4 with _ | _<;>simp[p] at e45 ⊢
   have p5:(t.pc==5)=false:=by rcases p:t.pc==5 with _ | _<;>simp[p] at e45 ⊢
   simp only[aC,aW]
   rcases w0:t.own==0 with _ | _
   ·have j0:(t.own != 0)=true:=by simp[bne,w0]
    simp only[go_sem,o1,o4,p4,p5,j0,ai]
   have j0:(t.own != 0)=false:=by simp[bne,w0]
   simp only[go_sem,o1,o4,o2,o3,p4,p5,j0,aj]
   try refine AAm ?_
   try simp only[go_sem,o1,o4,o2,o3]
   exact AIe
  ·rw[h45] at e45
   have hp:(t.pc==4)=true∨((t.pc==4)=false∧(t.pc==5)=true):=by
    rcases p:t.pc==4 with _ | _
    ·rw[p,bT] at e45
     exact .inr ⟨rfl,e45.symm⟩
    ·exact .inl rfl
   simp only[aX]
   rcases hp with p4 | ⟨p4,p5⟩
   rotate_left
   simp only[go_sem,o1,o4,p4,p5]
   rotate_left
   simp only[go_sem,o1,o4,p4]
   all_goals
    try refine AAm ?_
    try simp only[go_sem,o1,o4,p4]
    first | refine AB5 _ (by simpa only[go_sem,hm] using QV w t 2 hf) ?_ | refine AAT _ (by simpa only[go_sem,hm] using QV w t 2 hf) fun _=>?_
    rcases q1:WR w t 2 with _ | _
    ·simp only[go_sem,q1,ai]
    simp only[go_sem,q1,o1,o4,o2,o3,aj]
    try refine AAm ?_
    try simp only[go_sem,o1,o4,o2,o3]
    exact AIe
end Go.Proofs.YtnoldekcdlaahaaGreat
