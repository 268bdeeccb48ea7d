/- Walks: what is to be packed. -/
import Derived.Test.YthoeeoddgkjkkaaGreatXa
import Derived.Test.YthoeeoddgkjkkaaGreatAx
namespace Go.Proofs.YthoeeoddgkjkkaaGreat
set_option linter.unusedSimpArgs false
set_option linter.unusedVariables false
open Go.Vm
set_option maxHeartbeats 2000000
set_option maxRecDepth 10000
@[go_sem] theorem AAh {n:Nat} {d:Departure}:Region.binds .any ⟨n,.textOnly d⟩=false:=rfl
@[go_sem] theorem ADY {n:Nat} {d:Departure}:Region.binds .any ⟨n,.gcOnly d⟩=false:=rfl
def refAt (w:DWorld) (i:Nat):DRef:=(w.d.l[i]?).getD ⟨0,0,0,0,0⟩
theorem refAt_eq {w:DWorld} {i:Nat} (h:i<w.d.l.length):refAt w i=w.d.l[i]:=by simp[refAt,h]
theorem Xd {w:DWorld} (hf:Cb w):w.d.l.length≤1048576:=by
 rw[Gg] at hf
 have:=hf.2.1
 rw[MQ] at this
 exact this
theorem Zl {cs b:List Int} {l:List DRow} (h:CU cs b=some l):CG cs l=true:=by
 unfold CU at h
 split at h
 ·cases h
 ·split at h
  ·split at h
   ·cases h
   ·split at h
    ·rename_i h2
     cases h
     exact h2.2
    ·cases h
  ·cases h
end Go.Proofs.YthoeeoddgkjkkaaGreat
/- Walks: marks,kept rows,the rows of a part. -/
namespace Go.Proofs.YthoeeoddgkjkkaaGreat
set_option linter.unusedSimpArgs false
set_option linter.unusedVariables false
open Go.Vm
set_option maxHeartbeats 2000000
set_option maxRecDepth 10000
def HY (w:DWorld) (id:Int):Int:=if 0≤id then(w.m[id.toNat]?).getD 0 else 0
theorem Vs {w:DWorld} {n:Nat} (h:n<w.m.length):HY w n=w.m[n]:=by simp[HY,h]
theorem UH {w:DWorld} {id:Int} (h:¬ (0≤id∧id<w.m.length)):HY w id=0:=by
 unfold HY
 split
 ·rename_i h0
  rw[List.getElem?_eq_none (by omega)]; rfl
 ·rfl
theorem PX (w:DWorld) (id:Int) (hm:w.m.length≤1048576):Ctr Tryz.prog 127 [.agg w.c,.c (.v (.int .i64 id))] [.val (.c (.v (.int .i64 (HY w id))))]:=by
 refine Ctr.mk Tryz.call127 Tryz.func127 rfl mixed Tryz.ntmps127 Tryz.results127 (by kernel_rfl) rfl fun hw=>?_
 simp only[go_sem,List.length_map]
 try refine DrawK.mk ?_
 try simp only[go_sem,List.length_map]
 first | refine CallF.mk _ (Lt id 0 _) ?_ | refine CallK.mk _ (Lt id 0 _) fun _=>?_
 simp only[go_sem,List.length_map]
 rw[wrap_i64 (n:=(w.m.length:Int)-1) (by omega) (by omega)]
 by_cases hb:0≤id∧id<w.m.length
 ·obtain⟨n,rfl⟩:=Int.eq_ofNat_of_zero_le hb.1
  have hn:n<w.m.length:=by omega
  have e1:(decide ((n:Int)≥0)&&decide ((n:Int)≤(w.m.length:Int)-1))=true:=by simp; omega
  simp only[go_sem,List.length_map,e1,AA _ hn,hn,Vs hn]
 ·have e1:(decide (id≥0)&&decide (id≤(w.m.length:Int)-1))=false:=by simp; omega
  simp only[go_sem,List.length_map,e1,UH hb]
theorem PY (w:DWorld) (id:Int) (hm:w.m.length≤1048576):Ctr Tryz.prog 128 [.agg w.c,.c (.v (.int .i64 id))] [.val (.c (.v (.int .i64 (HY w id))))]:=by
 refine Ctr.mk Tryz.call128 Tryz.func128 rfl mixed Tryz.ntmps128 Tryz.results128 (by kernel_rfl) rfl fun hw=>?_
 by_cases hb:0≤id∧id<w.m.length
 ·obtain⟨n,rfl⟩:=Int.eq_ofNat_of_zero_le hb.1
  have hn:n<w.m.length:=by omega
  have e1:decide ((n:Int)<0)=false:=by simp
  have e2:decide ((n:Int)≥(w.m.length:Int))=false:=by simp; omega
  simp only[go_sem,List.length_map,e1,e2,AA _ hn,hn,Vs hn]
 ·rw[UH hb]
  by_cases h0:id<0
  ·have e1:decide (id<0)=true:=by simpa using h0
   simp only[go_sem,List.length_map,e1]
  ·have e1:decide (id<0)=false:=by simpa using h0
   have e2:decide (id≥(w.m.length:Int))=true:=by simp; omega
   simp only[go_sem,List.length_map,e1,e2]
def Nl (w:DWorld) (ts:Int) (r:DRow):Bool:=!came (HY w r.id) ts
def kept (w:DWorld) (l:List DRow) (ts:Int):List DRow:=l.filter (Nl w ts)
theorem Vt {w:DWorld} {l:List DRow} {ts:Int} {k:Nat} (h:k<l.length):kept w (l.drop k) ts=(if Nl w ts l[k]=true then [l[k]] else [])++kept w (l.drop (k+1)) ts:=by
 unfold kept
 rw[List.drop_eq_getElem_cons h,List.filter_cons]
 split<;>rfl
theorem dQ (w:DWorld) (l:List DRow) (ts:Int) (hm:w.m.length≤1048576) (hl:Hw BI l) :
  Ctr Tryz.prog 86 [.agg w.c,.c (.sl (l.map DRow.c)),.c (.v (.int .i64 ts))] [.own 121 2 ((kept w l ts).map DRow.o) true]:=by
 refine Ctr.mk Tryz.call86 Tryz.func86 rfl mixed Tryz.ntmps86 Tryz.results86 (by kernel_rfl) rfl fun hw=>?_
 simp only[go_sem,List.length_map]
 refine LoopB.mk 2 1 [2,3,7,11,12,13] (A:=Nat×List DRow) (fun x=>⟨31,[(2,.c (.v (.int .i64 ts))),(3,.lp 0 0 0),(7,.c (.ref 1)),(11,.c (.sl (l.map DRow.c))),(12,.c (.v (.int .i64 l.length))),(13,.c (.v (.int .i64 x.1)))],[⟨46,14,[w.c],true,true⟩,⟨121,2,x.2.map DRow.o,true,true⟩]⟩)
  (fun x=>x.1≤l.length∧x.2++kept w (l.drop x.1) ts=kept w l ts) (fun x=>l.length-x.1) (0,[]) [(0,false),(1,false)] ⟨⟨rfl,rfl,rfl,rfl,trivial⟩,rfl⟩ ⟨Nat.zero_le _,rfl⟩ ?_
 rintro⟨k,out⟩ ⟨hk,hb⟩
 dsimp only at hk hb
 have hol:out.length≤l.length:=by
  have h1:(kept w l ts).length≤l.length:=List.length_filter_le _ _
  rw[← hb] at h1
  simp at h1; omega
 have hlen:=hl.1
 simp only[go_sem,List.length_map]
 refine cndC.mk (fun h=>?_) (fun h=>?_)
 ·have hk':k<l.length:=by simpa using h
  rw[Vt hk'] at hb
  have hr:=hl.2 _ (List.getElem_mem hk')
  rw[Bf] at hr
  have hrl:=hr.1
  simp only[go_sem,List.length_map,AA _ hk',hk',Option.getD_some]
  try refine DrawK.mk ?_
  try simp only[go_sem,List.length_map,AA _ hk',hk']
  first | refine CallF.mk _ (by simpa only[go_sem] using PY w l[k].id hm) ?_ | refine CallK.mk _ (by simpa only[go_sem] using PY w l[k].id hm) fun _=>?_
  simp only[go_sem,List.length_map,AA _ hk',hk']
  first | refine CallF.mk _ (KO (HY w l[k].id) ts) ?_ | refine CallK.mk _ (KO (HY w l[k].id) ts) fun _=>?_
  rcases hc:came (HY w l[k].id) ts with _ | _
  ·have hp:Nl w ts l[k]=true:=by simp[Nl,hc]
   rw[if_pos hp] at hb
   simp only[go_sem,List.length_map,AA _ hk',hk',hc,Option.getD_some,wrap_i64 (n:=(k:Int)+1) (by omega) (by omega)]
   refine CallK.mk _ (by simpa only[go_sem] using Hq l[k] hrl) fun _=>?_
   have hol2:out.length+1≤1099511627776:=by
    have h1:(kept w l ts).length≤l.length:=List.length_filter_le _ _
    have h2:=congrArg List.length hb
    simp at h2; omega
   have hnr:∀ (a:Int) (l:Nat),CY [[Cl.v (.int .i64 a),.ref l]]=false:=fun _ _=>rfl
   simp only[go_sem,List.all_cons,List.all_nil,List.length_map,AA _ hk',hk',hol2,hnr,Option.getD_some,wrap_i64 (n:=(k:Int)+1) (by omega) (by omega)]
   refine⟨(k+1,out ++ [l[k]]),⟨[(0,false),(5,true),(3,false)],⟨rfl,rfl,rfl,I4 DRow.o_nr _ out rfl,AL DVal.pure,trivial⟩,.inr ⟨out.length,out.map DRow.o ++ [DRow.o l[k]],_,DRow.o l[k],_,⟨Nat.lt_succ_self 1,rfl,Iz DRow.o_nr _ out _ _,by simp,rfl⟩,
    ⟨rfl,rfl,rfl,rfl,rfl,rfl,Bl _,by simp[GI],fun l hl=>by simp[GI] at hl; omega⟩,⟨rfl, ?tr⟩, ?eq⟩⟩,⟨hk',by rw[← hb,List.append_assoc]⟩,by simp only; omega⟩
   case tr=>unfold BN; rw[CE]; exact all2 rfl (Ad (AX _))
   case eq=>unfold BN; rw[CE]; rfl
  ·have hp:Nl w ts l[k]=false:=by simp[Nl,hc]
   rw[if_neg (by simp[hp]),List.nil_append] at hb
   simp only[go_sem,List.length_map,AA _ hk',hk',hc,Option.getD_some,wrap_i64 (n:=(k:Int)+1) (by omega) (by omega)]
   refine⟨(k+1,out),⟨[(0,false),(1,true)],⟨rfl,rfl,rfl,Ef (AX _),trivial⟩,.inl ?eq⟩,⟨hk',hb⟩,by simp only; omega⟩
   case eq =>
    show (⟨31,_,[_,⟨121,2,(out.map DRow.o).map (fun x=>x.map (NQ [(0,false),(1,true)])),true,true⟩]⟩:MS)=_
    rw[Ee (AX out)]
    rfl
 ·have hk':k=l.length:=by simp at h; omega
  subst hk'
  rw[List.drop_length] at hb
  have:out=kept w l ts:=by simpa [kept] using hb
  subst this
  simp only[go_sem,AX]
  simp
theorem dR (w:DWorld) (l:List DRow) (ts:Int) (hm:w.m.length≤1048576) (hl:Hw BI l) :
  Ctr Tryz.prog 85 [.agg w.c,.c (.sl (l.map DRow.c)),.c (.v (.int .i64 ts))] [.own 121 2 ((kept w l ts).map DRow.o) true]:=by
 refine Ctr.mk Tryz.call85 Tryz.func85 rfl mixed Tryz.ntmps85 Tryz.results85 (by kernel_rfl) rfl fun hw=>?_
 simp only[go_sem,List.length_map]
 refine LoopB.mk 2 1 [1,2,3,7,8] (A:=Nat×List DRow) (fun x=>⟨37,[(1,.c (.sl (l.map DRow.c))),(2,.c (.v (.int .i64 ts))),(3,.lp 0 0 0),(7,.c (.ref 1)),(8,.c (.v (.int .i64 x.1)))],[⟨46,14,[w.c],true,true⟩,⟨121,2,x.2.map DRow.o,true,true⟩]⟩)
  (fun x=>x.1≤l.length∧x.2++kept w (l.drop x.1) ts=kept w l ts) (fun x=>l.length-x.1) (0,[]) [(0,false),(1,false)] ⟨⟨rfl,rfl,rfl,rfl,trivial⟩,rfl⟩ ⟨Nat.zero_le _,rfl⟩ ?_
 rintro⟨k,out⟩ ⟨hk,hb⟩
 dsimp only at hk hb
 have hol:out.length≤l.length:=by
  have h1:(kept w l ts).length≤l.length:=List.length_filter_le _ _
  rw[← hb] at h1
  simp at h1; omega
 have hlen:=hl.1
 simp only[go_sem,List.length_map]
 refine cndC.mk (fun h=>?_) (fun h=>?_)
 ·have hk':k<l.length:=by simpa using h
  rw[Vt hk'] at hb
  have hr:=hl.2 _ (List.getElem_mem hk')
  rw[Bf] at hr
  have hrl:=hr.1
  simp only[go_sem,List.length_map,AA _ hk',hk',Option.getD_some]
  try refine DrawK.mk ?_
  try simp only[go_sem,List.length_map,AA _ hk',hk']
  first | refine CallF.mk _ (by simpa only[go_sem] using PX w l[k].id hm) ?_ | refine CallK.mk _ (by simpa only[go_sem] using PX w l[k].id hm) fun _=>?_
  simp only[go_sem,List.length_map,AA _ hk',hk']
  first | refine CallF.mk _ (KN (HY w l[k].id) ts) ?_ | refine CallK.mk _ (KN (HY w l[k].id) ts) fun _=>?_
  rcases hc:came (HY w l[k].id) ts with _ | _
  ·have hp:Nl w ts l[k]=true:=by simp[Nl,hc]
   rw[if_pos hp] at hb
   simp only[go_sem,List.length_map,AA _ hk',hk',hc,Option.getD_some,wrap_i64 (n:=(k:Int)+1) (by omega) (by omega)]
   refine CallK.mk _ (by simpa only[go_sem] using Hy l[k] hrl) fun _=>?_
   have hol2:out.length+1≤1099511627776:=by
    have h1:(kept w l ts).length≤l.length:=List.length_filter_le _ _
    have h2:=congrArg List.length hb
    simp at h2; omega
   have hnr:∀ (a:Int) (l:Nat),CY [[Cl.v (.int .i64 a),.ref l]]=false:=fun _ _=>rfl
   simp only[go_sem,List.all_cons,List.all_nil,List.length_map,AA _ hk',hk',hol2,hnr,Option.getD_some,wrap_i64 (n:=(k:Int)+1) (by omega) (by omega)]
   refine⟨(k+1,out ++ [l[k]]),⟨[(0,false),(5,true),(2,false)],⟨rfl,rfl,rfl,I4 DRow.o_nr _ out rfl,AL DVal.pure,trivial⟩,.inr ⟨out.length,out.map DRow.o ++ [DRow.o l[k]],_,DRow.o l[k],_,⟨Nat.lt_succ_self 1,rfl,Iz DRow.o_nr _ out _ _,by simp,rfl⟩,
    ⟨rfl,rfl,rfl,rfl,rfl,rfl,Bl _,by simp[GI],fun l hl=>by simp[GI] at hl; omega⟩,⟨rfl, ?tr⟩, ?eq⟩⟩,⟨hk',by rw[← hb,List.append_assoc]⟩,by simp only; omega⟩
   case tr=>unfold BN; rw[CE]; exact all2 rfl (Ad (AX _))
   case eq=>unfold BN; rw[CE]; rfl
  ·have hp:Nl w ts l[k]=false:=by simp[Nl,hc]
   rw[if_neg (by simp[hp]),List.nil_append] at hb
   simp only[go_sem,List.length_map,AA _ hk',hk',hc,Option.getD_some,wrap_i64 (n:=(k:Int)+1) (by omega) (by omega)]
   refine⟨(k+1,out),⟨[(0,false),(1,true)],⟨rfl,rfl,rfl,Ef (AX _),trivial⟩,.inl ?eq⟩,⟨hk',hb⟩,by simp only; omega⟩
   case eq =>
    show (⟨37,_,[_,⟨121,2,(out.map DRow.o).map (fun x=>x.map (NQ [(0,false),(1,true)])),true,true⟩]⟩:MS)=_
    rw[Ee (AX out)]
    rfl
 ·have hk':k=l.length:=by simp at h; omega
  subst hk'
  rw[List.drop_length] at hb
  have:out=kept w l ts:=by simpa [kept] using hb
  subst this
  simp only[go_sem,AX]
  simp
def Dk (c:DChunk) (first ts:Int):Nat→List DRow
 | 0=>[]
 | k+1=>match c.l[k]? with
  | some x=>if came x.ins ts=true then Dk c first ts k ++ [⟨IntKind.i64.wrap (first+k),x.l⟩] else Dk c first ts k
  | none=>Dk c first ts k
def RV (c:DChunk) (first ts:Int):List DRow:=Dk c first ts c.l.length
def Ha (c:DChunk) (ts:Int):Nat→Nat
 | 0=>0
 | k+1=>match c.l[k]? with
  | some x=>if came x.ins ts=true then Ha c ts k+1 else Ha c ts k
  | none=>Ha c ts k
theorem F5 (c:DChunk) (first ts:Int):∀ k,(Dk c first ts k).length=Ha c ts k
 | 0=>rfl
 | k+1=>by
  simp only[Dk,Ha]
  split
  ·split
   ·simp[F5 c first ts k]
   ·exact F5 c first ts k
  ·exact F5 c first ts k
theorem IX (c:DChunk) (ts:Int):∀ k,Ha c ts k≤k
 | 0=>Nat.le_refl _
 | k+1=>by
  have:=IX c ts k
  simp only[Ha]
  split
  ·split<;>omega
  ·omega
theorem PZ {c:DChunk} {first ts:Int} {k:Nat} (hk:k<c.l.length) (h:came c.l[k].ins ts=true):Dk c first ts (k+1)=Dk c first ts k ++ [⟨IntKind.i64.wrap (first+k),c.l[k].l⟩]:=by
 simp[Dk,hk,h]
theorem RX {c:DChunk} {first ts:Int} {k:Nat} (hk:k<c.l.length) (h:came c.l[k].ins ts=false):Dk c first ts (k+1)=Dk c first ts k:=by
 simp[Dk,hk,h]
theorem Xe (c:DChunk) (first ts:Int) (hf:Ez c):Ctr Tryz.prog 74 [.agg c.c,.c (.v (.int .i64 (first))),.c (.v (.int .i64 (ts)))] [.own 121 2 ((RV c first ts).map DRow.o) true]:=by
 refine Ctr.mk Tryz.call74 Tryz.func74 rfl mixed Tryz.ntmps74 Tryz.results74 (by kernel_rfl) rfl fun hw=>?_
 rw[EF] at hf
 have hlen:=hf.1
 simp only[go_sem]
 refine LoopB.mk 2 1 [1,2,3,7,12,13,14] (A:=Nat×List DRow) (fun x=>⟨35,[(1,.c (.v (.int .i64 (first)))),(2,.c (.v (.int .i64 (ts)))),(3,.lp 0 0 0),(7,.c (.ref 1)),(12,.c (.sl (c.l.map DSlot.c))),(13,.c (.v (.int .i64 (c.l.length)))),(14,.c (.v (.int .i64 (x.1))))],[⟨98,2,[c.c],true,true⟩,⟨121,2,x.2.map DRow.o,true,true⟩]⟩)
  (fun x=>x.1≤c.l.length∧x.2=Dk c first ts x.1) (fun x=>c.l.length-x.1) (0,[]) [(0,false),(1,false)] ⟨⟨rfl,rfl,rfl,rfl,trivial⟩,rfl⟩ ⟨Nat.zero_le _,rfl⟩ ?_
 rintro⟨k,out⟩ ⟨hk,hb⟩
 dsimp only at hk hb
 have hol:out.length≤k:=by rw[hb,F5]; exact IX _ _ _
 simp only[go_sem]
 refine cndC.mk (fun h=>?_) (fun h=>?_)
 ·have hk':k<c.l.length:=by simpa using h
  have hs:=hf.2 _ (List.getElem_mem hk')
  rw[Ip] at hs
  have hsl:=hs.1
  have hwk:IntKind.i64.wrap ((k:Int)+1)=(k:Int)+1:=wrap_i64 (by omega) (by omega)
  simp only[go_sem,AA _ hk',hk']
  try refine DrawK.mk ?_
  try simp only[go_sem,AA _ hk',hk']
  first | refine CallF.mk _ (KO c.l[k].ins ts) ?_ | refine CallK.mk _ (KO c.l[k].ins ts) fun _=>?_
  rcases hc:came c.l[k].ins ts with _ | _
  ·simp only[go_sem,AA _ hk',hk',hc,hwk]
   refine⟨(k+1,out),⟨[(0,false),(1,true)],⟨rfl,rfl,rfl,Ef (AX _),trivial⟩,.inl ?eq⟩,⟨hk',by rw[RX hk' hc]; exact hb⟩,by simp only; omega⟩
   case eq =>
    show (⟨35,_,[_,⟨121,2,(out.map DRow.o).map (fun x=>x.map (NQ [(0,false),(1,true)])),true,true⟩]⟩:MS)=_
    rw[Ee (AX out)]
    rfl
  ·have hnr:∀ (a:Int) (l:Nat),CY [[Cl.v (.int .i64 a),.ref l]]=false:=fun _ _=>rfl
   have hol2:out.length+1≤2147483648:=by omega
   have hsl2:c.l[k].l.length≤2147483648:=by omega
   simp only[go_sem,AA _ hk',hk',hc,hwk]
   refine CallK.mk _ (Il c.l[k].l hsl) fun _=>?_
   simp only[go_sem,AA _ hk',hk',hol2,hnr,hwk]
   refine⟨(k+1,out ++ [⟨IntKind.i64.wrap (first+k),c.l[k].l⟩]),⟨[(0,false),(5,true),(3,false)],⟨rfl,rfl,rfl,I4 DRow.o_nr _ out rfl,AL DVal.pure,trivial⟩,.inr ⟨out.length,out.map DRow.o ++ [DRow.o ⟨IntKind.i64.wrap (first+k),c.l[k].l⟩],_,DRow.o ⟨IntKind.i64.wrap (first+k),c.l[k].l⟩,_,⟨Nat.lt_succ_self 1,rfl,Iz DRow.o_nr _ out _ _,by simp,rfl⟩,
    ⟨rfl,rfl,rfl,rfl,rfl,rfl,Bl _,by simp[GI],fun l hl=>by simp[GI] at hl; omega⟩,⟨rfl, ?tr⟩, ?eq⟩⟩,⟨hk',by rw[PZ hk' hc,← hb]⟩,by simp only; omega⟩
   case tr=>unfold BN; rw[CE]; exact all2 rfl (Ad (AX _))
   case eq=>unfold BN; rw[CE]; rfl
 ·have hk':k=c.l.length:=by simp at h; omega
  subst hk'
  have:out=RV c first ts:=hb
  subst this
  simp only[go_sem,AX]
  try simp[AU,AC]
theorem Pe (c:DChunk) (first ts:Int) (hf:Ez c):Ctr Tryz.prog 72 [.agg c.c,.c (.v (.int .i64 (first))),.c (.v (.int .i64 (ts)))] [.own 121 2 ((RV c first ts).map DRow.o) true]:=by
 refine Ctr.mk Tryz.call72 Tryz.func72 rfl mixed Tryz.ntmps72 Tryz.results72 (by kernel_rfl) rfl fun hw=>?_
 rw[EF] at hf
 have hlen:=hf.1
 simp only[go_sem]
 refine LoopB.mk 2 1 [1,2,3,7,8] (A:=Nat×List DRow) (fun x=>⟨41,[(1,.c (.v (.int .i64 (first)))),(2,.c (.v (.int .i64 (ts)))),(3,.lp 0 0 0),(7,.c (.ref 1)),(8,.c (.v (.int .i64 (x.1))))],[⟨98,2,[c.c],true,true⟩,⟨121,2,x.2.map DRow.o,true,true⟩]⟩)
  (fun x=>x.1≤c.l.length∧x.2=Dk c first ts x.1) (fun x=>c.l.length-x.1) (0,[]) [(0,false),(1,false)] ⟨⟨rfl,rfl,rfl,rfl,trivial⟩,rfl⟩ ⟨Nat.zero_le _,rfl⟩ ?_
 rintro⟨k,out⟩ ⟨hk,hb⟩
 dsimp only at hk hb
 have hol:out.length≤k:=by rw[hb,F5]; exact IX _ _ _
 simp only[go_sem]
 refine cndC.mk (fun h=>?_) (fun h=>?_)
 ·have hk':k<c.l.length:=by simpa using h
  have hs:=hf.2 _ (List.getElem_mem hk')
  rw[Ip] at hs
  have hsl:=hs.1
  have hwk:IntKind.i64.wrap ((k:Int)+1)=(k:Int)+1:=wrap_i64 (by omega) (by omega)
  simp only[go_sem,AA _ hk',hk']
  try refine DrawK.mk ?_
  try simp only[go_sem,AA _ hk',hk']
  first | refine CallF.mk _ (KN c.l[k].ins ts) ?_ | refine CallK.mk _ (KN c.l[k].ins ts) fun _=>?_
  rcases hc:came c.l[k].ins ts with _ | _
  ·simp only[go_sem,AA _ hk',hk',hc,hwk]
   refine⟨(k+1,out),⟨[(0,false),(1,true)],⟨rfl,rfl,rfl,Ef (AX _),trivial⟩,.inl ?eq⟩,⟨hk',by rw[RX hk' hc]; exact hb⟩,by simp only; omega⟩
   case eq =>
    show (⟨41,_,[_,⟨121,2,(out.map DRow.o).map (fun x=>x.map (NQ [(0,false),(1,true)])),true,true⟩]⟩:MS)=_
    rw[Ee (AX out)]
    rfl
  ·have hnr:∀ (a:Int) (l:Nat),CY [[Cl.v (.int .i64 a),.ref l]]=false:=fun _ _=>rfl
   have hol2:out.length+1≤2147483648:=by omega
   have hsl2:c.l[k].l.length≤2147483648:=by omega
   simp only[go_sem,AA _ hk',hk',hc,hwk]
   simp only[go_sem,AA _ hk',hk',Ko,Gp,hsl2,hol2,hnr,hwk]
   refine⟨(k+1,out ++ [⟨IntKind.i64.wrap (first+k),c.l[k].l⟩]),⟨[(0,false),(5,true),(3,false)],⟨rfl,rfl,rfl,I4 DRow.o_nr _ out rfl,AL DVal.pure,trivial⟩,.inr ⟨out.length,out.map DRow.o ++ [DRow.o ⟨IntKind.i64.wrap (first+k),c.l[k].l⟩],_,DRow.o ⟨IntKind.i64.wrap (first+k),c.l[k].l⟩,_,⟨Nat.lt_succ_self 1,rfl,Iz DRow.o_nr _ out _ _,by simp,rfl⟩,
    ⟨rfl,rfl,rfl,rfl,rfl,rfl,Bl _,by simp[GI],fun l hl=>by simp[GI] at hl; omega⟩,⟨rfl, ?tr⟩, ?eq⟩⟩,⟨hk',by rw[PZ hk' hc,← hb]⟩,by simp only; omega⟩
   case tr=>unfold BN; rw[CE]; exact all2 rfl (Ad (AX _))
   case eq=>unfold BN; rw[CE]; rfl
 ·have hk':k=c.l.length:=by simp at h; omega
  subst hk'
  have:out=RV c first ts:=hb
  subst this
  simp only[go_sem,AX]
  try simp[AU,AC]
end Go.Proofs.YthoeeoddgkjkkaaGreat
/- Walks: the rows of a part,the table at a moment. -/
namespace Go.Proofs.YthoeeoddgkjkkaaGreat
set_option linter.unusedSimpArgs false
set_option linter.unusedVariables false
open Go.Vm
set_option maxHeartbeats 2000000
set_option maxRecDepth 10000
noncomputable def Pg (w:DWorld) (r:DRef):List DRow:=if(r.kind==2&&there w r)=true then L6 w r else []
noncomputable def Ew (w:DWorld) (r:DRef) (ts:Int):List DRow:=if(Dc w r).2=true then RV (Dc w r).1 r.first ts else Pg w r
theorem UI:∀ (cs:List Int) (vs:List DVal),fits cs vs=true→vs.length=cs.length∧∀ v∈vs,BD v=true
 | [],[],_=>⟨rfl,fun v hv=>by cases hv⟩
 | [],_::_,h=>by simp[fits] at h
 | _::_,[],h=>by simp[fits] at h
 | c::cs,v::vs,h=>by
  simp only[fits,Bool.and_eq_true] at h
  obtain⟨h1,h2⟩:=UI cs vs h.2
  refine⟨by simp[h1],fun x hx=>?_⟩
  rcases List.mem_cons.1 hx with rfl | hx
  ·exact h.1.1
  ·exact h2 x hx
theorem Xf (w:DWorld) (r:DRef):fitS BI (L6 w r):=by
 unfold L6
 split
 ·exact⟨Nat.zero_le _,fun x hx=>by cases hx⟩
 ·rename_i b hb
  rcases h:CU w.c0.cols b.g with _ | l
  ·exact⟨Nat.zero_le _,fun x hx=>by cases hx⟩
  ·obtain⟨h1,h2,h3⟩:=V6 (Zl h)
   refine⟨by simp only[Option.getD_some]; omega,fun x hx=>?_⟩
   obtain⟨q1,q2⟩:=UI _ _ (h3 x hx).2.2
   rw[Bf]
   refine⟨by omega,fun v hv=>?_⟩
   have:=Oe (q2 v hv)
   rw[MO]; omega
theorem IY {c:DChunk} (first ts:Int) (hf:Ez c):∀ k,∀ r∈Dk c first ts k,BI r
 | 0,r,hr=>by cases hr
 | k+1,r,hr=>by
  simp only[Dk] at hr
  split at hr
  ·rename_i x hx
   split at hr
   ·rcases List.mem_append.1 hr with hr | hr
    ·exact IY first ts hf k r hr
    ·rw[List.mem_singleton.1 hr]
     rw[EF] at hf
     exact hf.2 x (List.mem_of_getElem? hx)
   ·exact IY first ts hf k r hr
  ·exact IY first ts hf k r hr
theorem ji {c:DChunk} (first ts:Int) (hf:Ez c):fitS BI (RV c first ts):=by
 refine⟨?_,IY first ts hf _⟩
 have h:=hf
 rw[EF] at h
 have h1:=h.1
 unfold RV
 rw[F5]
 exact Nat.le_trans (IX _ _ _) h1
theorem QY (w:DWorld) (r:DRef) (hf:Cb w):Ctr Tryz.prog 56 [.agg w.c,.agg r.c] [.own 121 2 ((Pg w r).map DRow.o) true]:=by
 refine Ctr.mk Tryz.call56 Tryz.func56 rfl mixed Tryz.ntmps56 Tryz.results56 (by kernel_rfl) rfl fun hw=>?_
 rcases h1:r.kind != 2 with _ | _
 ·have hk1:(r.kind==2)=true:=by simpa using h1
  simp only[go_sem,h1,hk1,Pg,Bool.true_and]
  try refine DrawK.mk ?_
  try simp only[go_sem,h1]
  first | refine CallF.mk _ (by simpa only[go_sem] using Ja w r) ?_ | refine CallK.mk _ (by simpa only[go_sem] using Ja w r) fun _=>?_
  rcases h2:there w r with _ | _
  ·simp only[go_sem,h1,h2]
   try simp[AU,AC]
  ·obtain⟨k,hk,hb,hat⟩ | ⟨hb,hat⟩:=Gm w r.buf
   ·have hbo:=gW hw.1 hk
    have hg:L6 w r=(CU w.c0.cols w.b[k].g).getD []:=by simp only[L6,hat]
    have hgs:=Uu w.c0.cols w.b[k].g hbo (PW hf hk).2
    simp only[go_sem,h1,h2,hb,AA _ hk,hk,hg]
    rcases hgg:CU w.c0.cols w.b[k].g with _ | l<;>rw[hgg] at hgs<;>simp only[QA] at hgs
    ·refine DrawK.mkE ?_
     simp only[go_sem,h1,h2,hb,AA _ hk,hk]
     refine CallE.mk _ hgs ?_
     simp only[go_sem]
     try simp[AU,AC,CY]
     rw[List.getElem?_eq_getElem hk]; rfl
    ·refine DrawK.mkE ?_
     simp only[go_sem,h1,h2,hb,AA _ hk,hk]
     refine CallE.mk _ hgs ?_
     simp only[go_sem,AX]
     try simp[AU,AC]
     rw[List.getElem?_eq_getElem hk]; rfl
   ·simp only[there,hat] at h2
    cases h2
 ·have hk1:(r.kind==2)=false:=by simpa using h1
  simp only[go_sem,h1,hk1,Pg,Bool.false_and]
  try refine DrawK.mk ?_
  try simp only[go_sem,h1,hk1]
  try simp[AU,AC]
theorem Vu (w:DWorld) (r:DRef) (hf:Cb w):Ez (Dc w r).1:=by
 unfold Dc
 rcases Gm w r.buf with ⟨k,hk,hb,hat⟩ | ⟨hb,hat⟩
 ·rw[hat]
  have:=(PW hf hk).1
  dsimp only
  split
  ·exact this
  ·rw[EF]; exact⟨Nat.zero_le _,fun x hx=>by cases hx⟩
 ·rw[hat,EF]; exact⟨Nat.zero_le _,fun x hx=>by cases hx⟩
theorem jk (w:DWorld) (r:DRef):fitS BI (Pg w r):=by
 unfold Pg
 split
 ·exact Xf w r
 ·exact⟨Nat.zero_le _,fun x hx=>by cases hx⟩
theorem UJ (w:DWorld) (r:DRef) (ts:Int) (hf:Cb w):fitS BI (Ew w r ts):=by
 unfold Ew
 split
 ·exact ji _ _ (Vu w r hf)
 ·exact jk w r
theorem Xg (w:DWorld) (r:DRef) (ts:Int) (hf:Cb w):Ctr Tryz.prog 20 [.agg w.c,.agg r.c,.c (.v (.int .i64 (ts)))] [.own 121 2 ((Ew w r ts).map DRow.o) true]:=by
 refine Ctr.mk Tryz.call20 Tryz.func20 rfl mixed Tryz.ntmps20 Tryz.results20 (by kernel_rfl) rfl fun hw=>?_
 simp only[go_sem]
 refine CallK.mk _ (by simpa only[go_sem] using U9 w r) fun _=>?_
 have hfc:=Vu w r hf
 unfold Ew
 generalize (Dc w r).1=c at hfc ⊢
 generalize (Dc w r).2=ok
 rcases ok with _ | _
 ·simp only[go_sem]
  refine CallK.mk _ (by simpa only[go_sem] using QY w r hf) fun _=>?_
  simp only[go_sem,AX]
  try simp[AU,AC]
 ·simp only[go_sem]
  refine CallK.mk _ (by simpa only[go_sem] using Xe c r.first ts hfc) fun _=>?_
  simp only[go_sem,AX]
  try simp[AU,AC]
theorem Xh (w:DWorld) (r:DRef) (ts:Int) (hf:Cb w):Ctr Tryz.prog 18 [.agg w.c,.agg r.c,.c (.v (.int .i64 (ts)))] [.own 121 2 ((Ew w r ts).map DRow.o) true]:=by
 refine Ctr.mk Tryz.call18 Tryz.func18 rfl mixed Tryz.ntmps18 Tryz.results18 (by kernel_rfl) rfl fun hw=>?_
 simp only[go_sem]
 refine CallK.mk _ (by simpa only[go_sem] using Zk w r) fun _=>?_
 rcases ta:there w r with _ | _
 ·have hc:(Dc w r).2=false:=by
   unfold Dc
   unfold there at ta
   split
   ·rfl
   ·rename_i b hb
    simp only[hb] at ta
    simp[ta]
  have he:Ew w r ts = []:=by simp[Ew,hc,Pg,ta]
  rw[he]
  simp only[go_sem]
  try simp[AU,AC]
 obtain⟨k,hk,hb,hat⟩ | ⟨hb,hat⟩:=Gm w r.buf
 rotate_left
 ·simp only[there,hat] at ta
  cases ta
 have tb:Lu w.b[k] r=true:=by simp only[there,hat] at ta; exact ta
 rcases k1:r.kind==1 with _ | _
 ·have hc:(Dc w r).2=false:=by simp[Dc,hat,k1]
  rcases k2:r.kind==2 with _ | _
  ·have he:Ew w r ts = []:=by simp[Ew,hc,Pg,k2]
   rw[he]
   simp only[go_sem,k1,k2]
   try simp[AU,AC]
  ·have he:Ew w r ts=L6 w r:=by simp[Ew,hc,Pg,k2,ta]
   rw[he]
   simp only[go_sem,k1,k2]
   try refine DrawK.mkE ?_
   try simp only[go_sem,k1,k2]
   first | refine CallK.mk _ (by simpa only[go_sem] using Vr w r hf hk hb) fun _=>?_ | refine CallE.mk _ (by simpa only[go_sem] using Vr w r hf hk hb) ?_
   simp only[go_sem]
   first | refine CallK.mk _ (TG (L6 w r) (Xf w r)) fun _=>?_ | refine CallE.mk _ (TG (L6 w r) (Xf w r)) ?_
   simp only[go_sem,AX]
   try simp[AU,AC]
 ·have hc:Dc w r=(w.b[k].c0,true):=by simp[Dc,hat,tb,k1]
  have he:Ew w r ts=RV w.b[k].c0 r.first ts:=by simp[Ew,hc]
  rw[he]
  simp only[go_sem,k1,hb,AA _ hk,hk]
  try refine DrawK.mkE ?_
  try simp only[go_sem,k1,hb,AA _ hk,hk]
  first | refine CallK.mk _ (by simpa only[go_sem] using Pe w.b[k].c0 r.first ts (PW hf hk).1) fun _=>?_ | refine CallE.mk _ (by simpa only[go_sem] using Pe w.b[k].c0 r.first ts (PW hf hk).1) ?_
  simp only[go_sem,AX]
  try simp[AU,AC]
  rw[List.getElem?_eq_getElem hk]; rfl
end Go.Proofs.YthoeeoddgkjkkaaGreat
/- Walks: the table at a moment. -/
namespace Go.Proofs.YthoeeoddgkjkkaaGreat
set_option linter.unusedSimpArgs false
set_option linter.unusedVariables false
open Go.Vm
set_option maxHeartbeats 2000000
set_option maxRecDepth 10000
noncomputable def F9 (w:DWorld) (ts:Int) (k:Nat):List DRow:=((w.d.l.take k).map fun r=>Ew w r ts).flatten
noncomputable def Eb (w:DWorld) (ts:Int):List DRow:=kept w (F9 w ts w.d.l.length) ts
theorem IB {w:DWorld} {ts:Int} {k:Nat} (h:k<w.d.l.length):F9 w ts (k+1)=F9 w ts k++Ew w w.d.l[k] ts:=by
 unfold F9
 rw[List.take_add_one,List.getElem?_eq_getElem h,List.map_append,List.flatten_append]
 simp
theorem UK (w:DWorld) (ts:Int) (hf:Cb w):∀ k,k≤w.d.l.length→(F9 w ts k).length≤k*1048576
 | 0,_=>by simp[F9]
 | k+1,h=>by
  have h1:=UK w ts hf k (by omega)
  have h2:=(UJ w w.d.l[k] ts hf).1
  rw[IB (by omega),List.length_append]
  omega
theorem I9 (w:DWorld) (ts:Int) (hf:Cb w) {k:Nat} (hk:k≤w.d.l.length):Hw BI (F9 w ts k):=by
 refine⟨?_,fun r hr=>?_⟩
 ·have h1:=UK w ts hf k hk
  have h2:=Xd hf
  have h3:k*1048576≤1048576*1048576:=Nat.mul_le_mul_right _ (by omega)
  omega
 ·unfold F9 at hr
  obtain⟨l,hl,hrl⟩:=List.mem_flatten.1 hr
  obtain⟨x,_,rfl⟩:=List.mem_map.1 hl
  exact(UJ w x ts hf).2 r hrl
theorem Zm {w:DWorld} (hf:Cb w):w.m.length≤1048576:=by
 rw[Gg] at hf
 exact hf.2.2.2.1
theorem mi {w:DWorld} {l:List DRow} {ts:Int} (h:Hw BI l):Hw BI (kept w l ts):=
 ⟨Nat.le_trans (List.length_filter_le _ _) h.1,fun x hx=>h.2 x (List.mem_filter.1 hx).1⟩
theorem L8 (w:DWorld) (ts:Int) (hf:Cb w):Hw BI (Eb w ts):=mi (I9 w ts hf (Nat.le_refl _))
theorem qA (l:List DVal):D_ (l.map DVal.c)=true:=by
 induction l with
 | nil=>rfl
 | cons c l ih=>simp only[List.map_cons,D_,ih,Bool.and_true]; rfl
theorem gX (l:List DRow):D_ (l.map DRow.o)=true:=by
 induction l with
 | nil=>rfl
 | cons c l ih=>simp only[List.map_cons,D_,ih,Bool.and_true,DRow.o_eq,List.cons_append,List.nil_append,CO,DX,qA]
theorem U_ (w:DWorld) (ts:Int) (hf:Cb w):Ctr Tryz.prog 26 [.agg w.c,.c (.v (.int .i64 (ts)))] [.own 121 2 ((Eb w ts).map DRow.o) true]:=by
 refine Ctr.mk Tryz.call26 Tryz.func26 rfl mixed Tryz.ntmps26 Tryz.results26 (by kernel_rfl) rfl fun hw=>?_
 have hrl:=Xd hf
 have hml:=Zm hf
 simp only[go_sem]
 refine LoopH.mk [8] (A:=Nat) (fun x=>[(13,.c (.v (.int .i64 (x)))),(5,.c (.ref 1))]) (fun x=>[⟨46,14,[w.c],true,true⟩,⟨121,2,(F9 w ts x).map DRow.o,true,true⟩]) (fun x=>x≤w.d.l.length) (fun x=>w.d.l.length-x) 0 (Head.sel [(0,false),(1,false)] ⟨rfl,rfl,rfl,rfl,trivial⟩ rfl) (Nat.zero_le _) ?_
 intro k hk
 simp only[go_sem]
 refine cndC.mk (fun h=>?_) (fun h=>?_)
 ·have hk':k<w.d.l.length:=by simpa using h
  have hwk:IntKind.i64.wrap ((k:Int)+1)=(k:Int)+1:=wrap_i64 (by omega) (by omega)
  have hnr:CY ((F9 w ts k).map DRow.o++(Ew w w.d.l[k] ts).map DRow.o)=true:=by rw[← List.map_append]; exact AX _
  have hb:=(I9 w ts hf (k:=k+1) hk').1
  rw[IB hk',List.length_append] at hb
  simp only[go_sem,AA _ hk',hk',hwk]
  refine CallK.mk _ (by simpa only[go_sem] using Xg w w.d.l[k] ts hf) fun _=>?_
  simp only[go_sem,AA _ hk',hk',hb,hwk]
  refine⟨k+1,Head.sel [(0,false),(4,true)] ⟨rfl,rfl,rfl,Ef hnr,trivial⟩ ?_,hk',by omega⟩
  show (⟨28,_,[_,⟨121,2,((F9 w ts k).map DRow.o++(Ew w w.d.l[k] ts).map DRow.o).map (fun x=>x.map (NQ [(0,false),(4,true)])),true,true⟩]⟩:MS)=_
  rw[Ee hnr,IB hk',List.map_append]
  rfl
 ·have hk':k=w.d.l.length:=by simp at h; omega
  subst hk'
  simp only[go_sem]
  refine BorK.mk (args:=[.agg w.c,.c (.sl ((F9 w ts w.d.l.length).map DRow.c)),.c (.v (.int .i64 (ts)))]) [.own 121 2 ((Eb w ts).map DRow.o) true] (by simp only[Bg,go_sem]) (by simp only[List.all_cons,K_,gX,List.all_nil,Bool.and_true]) (dQ w _ ts hml (I9 w ts hf (Nat.le_refl _))) fun _=>?_
  simp only[go_sem,AX]
  try simp[AU,AC]
theorem VA (w:DWorld) (ts:Int) (hf:Cb w):Ctr Tryz.prog 25 [.agg w.c,.c (.v (.int .i64 (ts)))] [.own 121 2 ((Eb w ts).map DRow.o) true]:=by
 refine Ctr.mk Tryz.call25 Tryz.func25 rfl mixed Tryz.ntmps25 Tryz.results25 (by kernel_rfl) rfl fun hw=>?_
 have hrl:=Xd hf
 have hml:=Zm hf
 simp only[go_sem]
 refine LoopH.mk [7] (A:=Nat) (fun x=>[(6,.c (.v (.int .i64 (x)))),(5,.c (.ref 1))]) (fun x=>[⟨46,14,[w.c],true,true⟩,⟨121,2,(F9 w ts x).map DRow.o,true,true⟩]) (fun x=>x≤w.d.l.length) (fun x=>w.d.l.length-x) 0 (Head.sel [(0,false),(1,false)] ⟨rfl,rfl,rfl,rfl,trivial⟩ rfl) (Nat.zero_le _) ?_
 intro k hk
 simp only[go_sem]
 refine cndC.mk (fun h=>?_) (fun h=>?_)
 ·have hk':k<w.d.l.length:=by simpa using h
  have hwk:IntKind.i64.wrap ((k:Int)+1)=(k:Int)+1:=wrap_i64 (by omega) (by omega)
  have hnr:CY ((F9 w ts k).map DRow.o++(Ew w w.d.l[k] ts).map DRow.o)=true:=by rw[← List.map_append]; exact AX _
  have hb:=(I9 w ts hf (k:=k+1) hk').1
  rw[IB hk',List.length_append] at hb
  simp only[go_sem,AA _ hk',hk',hwk]
  refine DrawK.mkE ?_
  simp only[go_sem,AA _ hk',hk',hb,hwk]
  refine CallE.mk _ (by simpa only[go_sem] using Xh w w.d.l[k] ts hf) ?_
  simp only[go_sem,AA _ hk',hk',hb,hwk]
  refine⟨k+1,Head.sel [(0,false),(3,true)] ⟨rfl,rfl,rfl,Ef hnr,trivial⟩ ?_,hk',by omega⟩
  show (⟨31,_,[_,⟨121,2,((F9 w ts k).map DRow.o++(Ew w w.d.l[k] ts).map DRow.o).map (fun x=>x.map (NQ [(0,false),(3,true)])),true,true⟩]⟩:MS)=_
  rw[Ee hnr,IB hk',List.map_append]
  rfl
 ·have hk':k=w.d.l.length:=by simp at h; omega
  subst hk'
  simp only[go_sem]
  refine BorK.mk (args:=[.agg w.c,.c (.sl ((F9 w ts w.d.l.length).map DRow.c)),.c (.v (.int .i64 (ts)))]) [.own 121 2 ((Eb w ts).map DRow.o) true] (by simp only[Bg,go_sem]) (by simp only[List.all_cons,K_,gX,List.all_nil,Bool.and_true]) (dR w _ ts hml (I9 w ts hf (Nat.le_refl _))) fun _=>?_
  simp only[go_sem,AX]
  try simp[AU,AC]
end Go.Proofs.YthoeeoddgkjkkaaGreat
