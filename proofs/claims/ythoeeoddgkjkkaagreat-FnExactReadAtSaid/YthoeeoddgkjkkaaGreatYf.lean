/- Walks: values in bytes, plain columns. -/
import Derived.Test.YthoeeoddgkjkkaaGreatYe
namespace Go.Proofs.YthoeeoddgkjkkaaGreat
set_option linter.unusedSimpArgs false
set_option linter.unusedVariables false
open Go.Vm
set_option maxHeartbeats 2000000
set_option maxRecDepth 10000
theorem NG {l:List DVal} (h0:0<l.length) {i:Nat} (hi:i<l.length) (h:¬ (BD l[i]=true∧l[i].ty=l[0].ty)):typeOf l=0:=by
 cases l with
 | nil=>simp at h0
 | cons v r =>
  show (if(v::r).length≤64∧_ then v.ty else 0)=0
  rw[if_neg]
  rintro⟨_,q⟩
  exact h (q _ (List.getElem_mem hi))
theorem Df (l:List Int):E5 (l.map byteC)=true:=AL byteC.pure
theorem Eh (l:List Int):E5 (l.map intC)=true:=AL Qa
theorem KR (l:List DVal):E5 (l.map DVal.c)=true:=AL DVal.pure
theorem dV (s:ByteArray):JU s=(Zc s).map byteC:=by simp only[JU,Zc,List.map_map]; rfl
attribute [go_sem] List.all_cons List.all_nil List.length_append List.length_cons List.length_nil List.length_map dV Option.getD_some Nat.zero_lt_succ if_true
theorem MB (a b:List Int):a.map byteC++b.map byteC=(a++b).map byteC:=List.map_append.symm
theorem BP (l:List DVal) (hl:l.length≤1048576):Ctr Tryz.prog 191 [.c (.sl (l.map DVal.c))] [.val (.c (.v (.int .i64 (typeOf l))))]:=by
 refine Ctr.mk Tryz.call191 Tryz.func191 rfl mixed Tryz.ntmps191 Tryz.results191 (by kernel_rfl) rfl fun hw=>?_
 simp only[go_sem,List.length_map]
 refine CallK.mk _ (BK _ _ _) fun _=>?_
 rcases h1:BQ (l.length:Int) 1 64 with _ | _
 ·have:typeOf l=0:=by
   cases l with
   | nil=>rfl
   | cons v r =>
    show (if(v::r).length≤64∧_ then v.ty else 0)=0
    rw[if_neg]
    rintro⟨q,_⟩
    simp[BQ] at h1 q; omega
  simp only[go_sem,h1,this]
 have hlen:1≤l.length∧l.length≤64:=by simp[BQ] at h1; omega
 have h0:0<l.length:=by omega
 simp only[go_sem,h1,List.length_map]
 refine LoopU.mk 0 (A:=Nat) (fun x=>[(11,.c (.v (.int .i64 (x))))]) (fun _=>[]) (fun x=>x≤l.length∧∀ m (h:m<l.length),m<x→BD l[m]=true∧l[m].ty=l[0].ty) (fun x=>l.length-x) 0 ⟨⟨rfl,rfl⟩,rfl,Nat.zero_le _,fun m h h2=>by omega⟩ ?_
 rintro i ⟨hi,hb⟩
 simp only[go_sem,List.length_map]
 refine cndC.mk (fun h=>?_) (fun h=>?_)
 ·have hi':i<l.length:=by simp at h; omega
  simp only[go_sem,List.length_map,AA _ hi',AA _ h0,Option.getD_some]
  refine DrawK.mk ?_
  simp only[go_sem,List.length_map,AA _ hi',AA _ h0,Option.getD_some]
  refine CallF.mk _ (by simpa only[go_sem] using Em l[i]) ?_
  simp only[go_sem,List.length_map,AA _ hi',AA _ h0,Option.getD_some]
  rcases h2:BD l[i] with _ | _
  ·rw[NG h0 (i:=i) hi' (fun q=>by rw[h2] at q; cases q.1)]
   simp only[go_sem,h2]
  rcases h3:l[i].ty != l[0].ty with _ | _
  ·have h3':l[i].ty=l[0].ty:=by simpa using h3
   simp only[go_sem,List.length_map,AA _ hi',AA _ h0,h2,h3,wrap_i64 (n:=(i:Int)+1) (by omega) (by omega)]
   exact⟨i+1,⟨rfl,rfl⟩,rfl,⟨hi',fun m h4 h5=>by
    by_cases e:m=i
    ·subst e; exact⟨h2,h3'⟩
    ·exact hb m h4 (by omega)⟩,by omega⟩
  ·have h3':l[i].ty≠l[0].ty:=by simpa using h3
   rw[NG h0 (i:=i) hi' (fun q=>h3' q.2)]
   simp only[go_sem,List.length_map,AA _ hi',AA _ h0,h2,h3]
 ·have hi':i=l.length:=by simp at h; omega
  subst hi'
  have:typeOf l=l[0].ty:=Me hlen.1 hlen.2 fun v hv=>by
   obtain⟨m,hm,rfl⟩:=List.getElem_of_mem hv
   exact hb m hm hm
  rw[this]
  simp only[go_sem,List.length_map,AA _ h0]
theorem DU (l:List DVal) (hl:l.length≤1048576):Ctr Tryz.prog 180 [.c (.sl (l.map DVal.c))] [.val (.c (.v (.int .i64 (typeOf l))))]:=by
 refine Ctr.mk Tryz.call180 Tryz.func180 rfl mixed Tryz.ntmps180 Tryz.results180 (by kernel_rfl) rfl fun hw=>?_
 simp only[go_sem,List.length_map]
 refine CallK.mk _ (Am _ _ _) fun _=>?_
 rcases h1:BQ (l.length:Int) 1 64 with _ | _
 ·have:typeOf l=0:=by
   cases l with
   | nil=>rfl
   | cons v r =>
    show (if(v::r).length≤64∧_ then v.ty else 0)=0
    rw[if_neg]
    rintro⟨q,_⟩
    simp[BQ] at h1 q; omega
  simp only[go_sem,h1,this]
 have hlen:1≤l.length∧l.length≤64:=by simp[BQ] at h1; omega
 have h0:0<l.length:=by omega
 simp only[go_sem,h1,List.length_map]
 refine LoopU.mk 0 (A:=Nat) (fun x=>[(3,.c (.v (.int .i64 (x))))]) (fun _=>[]) (fun x=>x≤l.length∧∀ m (h:m<l.length),m<x→BD l[m]=true∧l[m].ty=l[0].ty) (fun x=>l.length-x) 0 ⟨⟨rfl,rfl⟩,rfl,Nat.zero_le _,fun m h h2=>by omega⟩ ?_
 rintro i ⟨hi,hb⟩
 simp only[go_sem,List.length_map]
 refine cndC.mk (fun h=>?_) (fun h=>?_)
 ·have hi':i<l.length:=by simp at h; omega
  simp only[go_sem,List.length_map,AA _ hi',AA _ h0,Option.getD_some]
  refine DrawK.mk ?_
  simp only[go_sem,List.length_map,AA _ hi',AA _ h0,Option.getD_some]
  refine CallF.mk _ (by simpa only[go_sem] using JQ l[i]) ?_
  simp only[go_sem,List.length_map,AA _ hi',AA _ h0,Option.getD_some]
  rcases h2:BD l[i] with _ | _
  ·rw[NG h0 (i:=i) hi' (fun q=>by rw[h2] at q; cases q.1)]
   simp only[go_sem,h2]
  rcases h3:l[i].ty != l[0].ty with _ | _
  ·have h3':l[i].ty=l[0].ty:=by simpa using h3
   simp only[go_sem,List.length_map,AA _ hi',AA _ h0,h2,h3,wrap_i64 (n:=(i:Int)+1) (by omega) (by omega)]
   exact⟨i+1,⟨rfl,rfl⟩,rfl,⟨hi',fun m h4 h5=>by
    by_cases e:m=i
    ·subst e; exact⟨h2,h3'⟩
    ·exact hb m h4 (by omega)⟩,by omega⟩
  ·have h3':l[i].ty≠l[0].ty:=by simpa using h3
   rw[NG h0 (i:=i) hi' (fun q=>h3' q.2)]
   simp only[go_sem,List.length_map,AA _ hi',AA _ h0,h2,h3]
 ·have hi':i=l.length:=by simp at h; omega
  subst hi'
  have:typeOf l=l[0].ty:=Me hlen.1 hlen.2 fun v hv=>by
   obtain⟨m,hm,rfl⟩:=List.getElem_of_mem hv
   exact hb m hm hm
  rw[this]
  simp only[go_sem,List.length_map,AA _ h0]
def VF (v:DVal):List Int:=if BD v=true then PU v else []
theorem Zr {v:DVal} (h:BD v=true) (h2:v.ty=1):VF v=SA v.n:=by
 have:C9 v.n=true:=by
  simp only[BD,if_pos h2,Bool.and_eq_true] at h
  exact h.1
 simp only[VF,SA,h,this,if_true,PU,if_pos h2]
theorem Zt {v:DVal} (h:BD v=true) (h2:v.ty=2):VF v=(v.s.size:Int)::Zc v.s∧v.s.size≤6:=by
 have h3:¬ v.ty=1:=by omega
 have:v.s.size≤6:=by
  simp only[BD,if_neg h3,Bool.and_eq_true,decide_eq_true_eq] at h
  exact h.1.2
 exact⟨by simp only[VF,h,if_true,PU,if_neg h3],this⟩
theorem KT (b:List Int) (v:DVal) (hl:b.length≤1048576):Ctr Tryz.prog 248 [.c (.sl (b.map byteC)),.agg v.c] [.own 5 1 ((b++VF v).map byteC) true]:=by
 refine Ctr.mk Tryz.call248 Tryz.func248 rfl mixed Tryz.ntmps248 Tryz.results248 (by kernel_rfl) rfl fun hw=>?_
 have hl2:b.length≤2147483648:=by omega
 simp only[go_sem,List.length_map]
 refine CallK.mk _ (Em v) fun _=>?_
 rcases h1:BD v with _ | _
 ·simp only[go_sem,h1,VF]
  refine CallK.mk _ (FC b hl2) fun _=>?_
  simp only[go_sem,h1,Bz,List.append_nil]
  try simp[AU,AC]
 have hty:=UB h1
 rcases h2:v.ty==1 with _ | _
 rotate_left
 ·have h2':v.ty=1:=by simpa using h2
  simp only[go_sem,h1,h2]
  refine CallK.mk _ (EO b v.n hl) fun _=>?_
  rw[Zr h1 h2']
  simp only[go_sem,Bz]
  try simp[AU,AC]
 have h2':v.ty=2:=by simp at h2; omega
 obtain⟨e1,e2⟩:=Zt h1 h2'
 have w1:IntKind.u8.wrap (v.s.size:Int)=v.s.size:=wrap_u8 (by omega) (by omega)
 have g1:b.length+1≤2147483648:=by omega
 have g2:b.length+1+v.s.size≤2147483648:=by omega
 rw[e1]
 simp only[go_sem,h1,h2]
 refine DrawK.split 1 6 [0,1,2,3,4,5,6,7,8,9,10,11] [0,2,3,4,5,6,1,7,8,9,10,11] rfl (by kernel_rfl) (by kernel_rfl) ?_ ?_
 ·simp only[go_sem]
  refine DrawK.mkE ?_
  simp only[go_sem]
  refine CallE.mk _ (FC b hl2) ?_
  simp only[go_sem,w1,g1,g2,Bz,List.append_assoc]
  try simp[AU,AC,byteC]
 ·simp only[go_sem]
  refine DrawK.mkE ?_
  simp only[go_sem,w1]
  refine CallE.mk _ (FC b hl2) ?_
  simp only[go_sem,w1,g1,g2,Bz,List.append_assoc]
  try simp[AU,AC,byteC]
theorem KU (b:List Int) (v:DVal) (hl:b.length≤1048576):Ctr Tryz.prog 237 [.c (.sl (b.map byteC)),.agg v.c] [.own 5 1 ((b++VF v).map byteC) true]:=by
 refine Ctr.mk Tryz.call237 Tryz.func237 rfl mixed Tryz.ntmps237 Tryz.results237 (by kernel_rfl) rfl fun hw=>?_
 have hl2:b.length≤2147483648:=by omega
 simp only[go_sem,List.length_map,Eg,hl2,Option.getD_some]
 refine CallK.mk _ (JQ v) fun _=>?_
 rcases h1:BD v with _ | _
 ·simp only[go_sem,h1,VF,Bz,List.append_nil]
  try simp[AU,AC]
 have hty:=UB h1
 rcases h2:v.ty==1 with _ | _
 rotate_left
 ·have h2':v.ty=1:=by simpa using h2
  simp only[go_sem,h1,h2,Df]
  refine CallK.mk _ (G6 b v.n hl) fun _=>?_
  rw[Zr h1 h2']
  simp only[go_sem,Bz]
  try simp[AU,AC]
 have h2':v.ty=2:=by simp at h2; omega
 obtain⟨e1,e2⟩:=Zt h1 h2'
 have w1:IntKind.u8.wrap (v.s.size:Int)=v.s.size:=wrap_u8 (by omega) (by omega)
 have g1:b.length+1≤2147483648:=by omega
 have g2:b.length+1+v.s.size≤2147483648:=by omega
 rw[e1]
 simp only[go_sem,h1,h2]
 refine DrawK.mkE ?_
 simp only[go_sem,w1,g1,g2]
 simp only[Bz,List.append_assoc]
 try simp[AU,AC,byteC]
def Kw:DVal:=⟨0,0,ByteArray.empty⟩
def Ua:Option (DVal×Nat)→List Res
 | some (v,q)=>[.val (.agg v.c),.val (.c (.v (.int .i64 ((q:Int))))),.val (.c (.v (.bool (true))))]
 | none=>[.val (.agg Kw.c),.val (.c (.v (.int .i64 (0)))),.val (.c (.v (.bool (false))))]
theorem I_:∀ l:List Int,LZ (l.map byteC)=some l
 | []=>rfl
 | c::l=>by
  show (match LZ (l.map byteC) with | some ns=>some (c::ns) | none=>none)=_
  rw[I_ l]
theorem FQ {k:IntKind} {n:Int} {m:Nat} (h:n=(m:Int)):NM (.c (.v (.int k n)))=some m:=by
 subst h
 show (if(0:Int)≤(m:Int) then some (m:Int).toNat else none)=_
 rw[if_pos (by omega),Int.toNat_natCast]
theorem Ar (l:List Int):((l.map byteC).all fun r=>r.length==1)=true:=List.all_eq_true.2 fun r hr=>by
 obtain⟨x,_,rfl⟩:=List.mem_map.1 hr
 rfl
theorem sK (b:List Int) (p ty:Int) (h1:ty≠1) (h2:ty≠2):D6 b p ty=none:=by
 unfold D6
 rw[if_neg h1,if_neg (fun h=>h2 h.1)]
theorem dW (b:List Int) (p:Int) (h:¬ (0≤p∧p<b.length)):D6 b p 2=none:=by
 unfold D6
 rw[if_neg (by omega)]
 split
 ·rename_i h2
  have:b[p.toNat]?=none:=by rw[List.getElem?_eq_none_iff]; omega
  rw[this]
 ·rfl
theorem sN {b:List Int} {p:Nat} (h:p<b.length):D6 b (p:Int) 2=if p+1+b[p].toNat≤b.length then(if BD ⟨2,0,strOfNums ((b.drop (p+1)).take b[p].toNat)⟩=true then some (⟨2,0,strOfNums ((b.drop (p+1)).take b[p].toNat)⟩,p+1+b[p].toNat) else none) else none:=by
 unfold D6
 rw[if_neg (by omega),if_pos ⟨rfl,by omega⟩]
 simp only[Int.toNat_natCast,List.getElem?_eq_getElem h]
theorem Po (b:List Int) (p ty:Int) (hb:AY b) (hl:b.length≤1048576):Ctr Tryz.prog 218 [.c (.sl (b.map byteC)),.c (.v (.int .i64 (p))),.c (.v (.int .i64 (ty)))] (Ua (D6 b p ty)):=by
 refine Ctr.mk Tryz.call218 Tryz.func218 rfl mixed Tryz.ntmps218 Tryz.results218 (by kernel_rfl) rfl fun hw=>?_
 rcases h1:ty==1 with _ | _
 ·have h1':ty≠1:=by simpa using h1
  simp only[go_sem,h1]
  rcases h2:ty==2 with _ | _
  ·have h2':ty≠2:=by simpa using h2
   rw[sK b p ty h1' h2']
   simp only[go_sem,h2]
   refine CallK.mk _ (Em ⟨ty,0,ByteArray.empty⟩) fun _=>?_
   have hv:BD ⟨ty,0,ByteArray.empty⟩=false:=by simp[BD,h1',h2']
   simp only[go_sem,hv,Ua,Kw]
  ·have:ty=2:=by simpa using h2
   subst this
   simp only[go_sem,h2]
   rcases h3:decide (p≥0) with _ | _
   ·rw[dW b p (by simp at h3; omega)]
    simp only[go_sem,h3]
    refine CallK.mk _ (Em ⟨2,0,ByteArray.empty⟩) fun _=>?_
    have e7:((0:Int)==0)=true:=rfl
    rcases hv:BD ⟨2,0,ByteArray.empty⟩ with _ | _<;>simp only[go_sem,hv,e7,Ua,Kw]
   have h3':0≤p:=by simpa using h3
   obtain⟨p,rfl⟩:=Int.eq_ofNat_of_zero_le h3'
   rcases h4:decide ((p:Int)<(b.length:Int)) with _ | _
   ·rw[dW b p (by simp at h4; omega)]
    simp only[go_sem,h3,h4]
    refine CallK.mk _ (Em ⟨2,0,ByteArray.empty⟩) fun _=>?_
    have e7:((0:Int)==0)=true:=rfl
    rcases hv:BD ⟨2,0,ByteArray.empty⟩ with _ | _<;>simp only[go_sem,hv,e7,Ua,Kw]
   have hp:p<b.length:=by simpa using h4
   have hc:isByte b[p]:=hb _ (List.getElem_mem hp)
   obtain⟨c,hc2⟩:=Int.eq_ofNat_of_zero_le hc.1
   have hc3:c<256:=by have:=hc.2; omega
   rw[sN hp]
   simp only[go_sem,h3,h4,AA _ hp,hc2,Int.toNat_natCast,wrap_i64 (n:=(p:Int)+1) (by omega) (by omega),wrap_i64 (n:=(p:Int)+1+(c:Int)) (by omega) (by omega),wrap_i64 (n:=(c:Int)) (by omega) (by omega)]
   rcases h5:decide ((p:Int)+1+(c:Int)>(b.length:Int)) with _ | _
   ·have h6:p+1+c≤b.length:=by simp at h5; omega
    have q1:=FQ (k:=.i64) (n:=(p:Int)+1) (m:=p+1) (by omega)
    have q2:=FQ (k:=.i64) (n:=(p:Int)+1+(c:Int)) (m:=p+1+c) (by omega)
    have q5:p+1≤p+1+c:=by omega
    have q6:p+1+c-(p+1)=c:=by omega
    rw[if_pos h6]
    simp only[go_sem,h5,wrap_i64 (n:=(p:Int)+1) (by omega) (by omega),q1,q2,q5,q6,h6,Ar,← List.map_drop,← List.map_take,I_]
    refine CallK.mk _ (Em ⟨2,0,strOfNums ((b.drop (p+1)).take c)⟩) fun _=>?_
    have e7:((p:Int)+1+(c:Int)==0)=false:=by simp; omega
    have e8:((p+1+c:Nat):Int)=(p:Int)+1+(c:Int):=by omega
    rcases hv:BD ⟨2,0,strOfNums ((b.drop (p+1)).take c)⟩ with _ | _
    ·simp only[go_sem,hv,Ua,Kw,Bool.false_eq_true,if_false]
    ·simp only[go_sem,hv,e7,Ua,e8,wrap_i64 (n:=(p:Int)+1) (by omega) (by omega),wrap_i64 (n:=(p:Int)+1+(c:Int)) (by omega) (by omega)]
   ·rw[if_neg (by simp at h5; omega)]
    simp only[go_sem,h5,Ua,Kw]
 ·have:ty=1:=by simpa using h1
  subst this
  simp only[go_sem,h1]
  have hg:=EN b p hb hl
  rcases h2:A8 b p with _ | ⟨n,q⟩<;>rw[h2] at hg<;>simp only[Pi] at hg
  ·refine CallK.mk _ hg fun _=>?_
   simp only[go_sem,D6,h2,Ua,Option.map_none,Kw]
  refine CallK.mk _ hg fun _=>?_
  obtain⟨e1,e2,e3,e4,e5,e6⟩:=FH hb h2
  have hv:=Vp n ⟨e4,e5⟩
  simp only[go_sem]
  refine CallK.mk _ (Em ⟨1,n,ByteArray.empty⟩) fun _=>?_
  have e7:((q:Int)==0)=false:=by simp; omega
  simp only[go_sem,hv,D6,h2,Ua,Option.map_some,e7]
theorem Ia (b:List Int) (p ty:Int) (hb:AY b) (hl:b.length≤1048576):Ctr Tryz.prog 202 [.c (.sl (b.map byteC)),.c (.v (.int .i64 (p))),.c (.v (.int .i64 (ty)))] (Ua (D6 b p ty)):=by
 refine Ctr.mk Tryz.call202 Tryz.func202 rfl mixed Tryz.ntmps202 Tryz.results202 (by kernel_rfl) rfl fun hw=>?_
 rcases h1:ty==1 with _ | _
 ·have h1':ty≠1:=by simpa using h1
  simp only[go_sem,h1]
  rcases h2:ty==2 with _ | _
  ·have h2':ty≠2:=by simpa using h2
   rw[sK b p ty h1' h2']
   have h3:(ty != 2)=true:=by simpa using h2'
   simp only[go_sem,h3,Ua,Kw]
  ·have:ty=2:=by simpa using h2
   subst this
   have h3:((2:Int) != 2)=false:=by simp
   simp only[go_sem,h3]
   refine CallK.mk _ (Am _ _ _) fun _=>?_
   simp only[go_sem,wrap_i64 (n:=(b.length:Int)-1) (by omega) (by omega)]
   rcases h4:BQ p 0 ((b.length:Int)-1) with _ | _
   ·rw[dW b p (by simp[BQ] at h4; omega)]
    simp only[go_sem,h4,Ua,Kw]
   have h4':0≤p∧p<b.length:=by simp[BQ] at h4; omega
   obtain⟨p,rfl⟩:=Int.eq_ofNat_of_zero_le h4'.1
   have hp:p<b.length:=by omega
   have hc:isByte b[p]:=hb _ (List.getElem_mem hp)
   obtain⟨c,hc2⟩:=Int.eq_ofNat_of_zero_le hc.1
   have hc3:c<256:=by have:=hc.2; omega
   rw[sN hp]
   simp only[go_sem,h4,AA _ hp,hc2,Int.toNat_natCast,wrap_i64 (n:=(p:Int)+1) (by omega) (by omega),wrap_i64 (n:=(p:Int)+1+(c:Int)) (by omega) (by omega),wrap_i64 (n:=(c:Int)) (by omega) (by omega),wrap_i64 (n:=(b.length:Int)-(p:Int)) (by omega) (by omega),wrap_i64 (n:=(b.length:Int)-(p:Int)-1) (by omega) (by omega)]
   rcases h5:decide ((c:Int)>(b.length:Int)-(p:Int)-1) with _ | _
   ·have h6:p+1+c≤b.length:=by simp at h5; omega
    have q1:=FQ (k:=.i64) (n:=(p:Int)+1) (m:=p+1) (by omega)
    have q2:=FQ (k:=.i64) (n:=(p:Int)+1+(c:Int)) (m:=p+1+c) (by omega)
    have q5:p+1≤p+1+c:=by omega
    have q6:p+1+c-(p+1)=c:=by omega
    rw[if_pos h6]
    simp only[go_sem,h5,wrap_i64 (n:=(p:Int)+1) (by omega) (by omega),wrap_i64 (n:=(p:Int)+1+(c:Int)) (by omega) (by omega),q1,q2,q5,q6,h6,Ar,← List.map_drop,← List.map_take,I_]
    refine CallK.mk _ (JQ ⟨2,0,strOfNums ((b.drop (p+1)).take c)⟩) fun _=>?_
    have e7:((p:Int)+1+(c:Int)==0)=false:=by simp; omega
    have e8:((p+1+c:Nat):Int)=(p:Int)+1+(c:Int):=by omega
    rcases hv:BD ⟨2,0,strOfNums ((b.drop (p+1)).take c)⟩ with _ | _
    ·simp only[go_sem,hv,Ua,Kw,Bool.false_eq_true,if_false]
    ·simp only[go_sem,hv,e7,Ua,e8,wrap_i64 (n:=(p:Int)+1) (by omega) (by omega),wrap_i64 (n:=(p:Int)+1+(c:Int)) (by omega) (by omega)]
   ·rw[if_neg (by simp at h5; omega)]
    simp only[go_sem,h5,Ua,Kw]
 ·have:ty=1:=by simpa using h1
  subst this
  simp only[go_sem,h1]
  have hg:=EM b p hb hl
  rcases h2:A8 b p with _ | ⟨n,q⟩<;>rw[h2] at hg<;>simp only[Pi] at hg
  ·refine CallK.mk _ hg fun _=>?_
   simp only[go_sem,D6,h2,Ua,Option.map_none,Kw]
  refine CallK.mk _ hg fun _=>?_
  simp only[go_sem,D6,h2,Ua,Option.map_some]
end Go.Proofs.YthoeeoddgkjkkaaGreat
