/- Walks: comparing rows and results, zones, columns, finding rows. -/
import Derived.Test.YthoeeoddgkjkkaaGreatAa
import Derived.Test.YthoeeoddgkjkkaaGreatOa
namespace Go.Proofs.YthoeeoddgkjkkaaGreat
set_option linter.unusedSimpArgs false
set_option linter.unusedVariables false
open Go.Vm
set_option maxHeartbeats 2000000
set_option maxRecDepth 10000
def Hw {α:Type} (f:α→Prop) (l:List α):Prop:=l.length≤1099511627776∧∀ x∈l,f x
theorem fitS.big {α:Type} {f:α→Prop} {l:List α} (h:fitS f l):Hw f l:=⟨Nat.le_trans h.1 (by decide),h.2⟩
theorem sSameRows_spec (a b:List DRow) (ha:Hw BI a) (hb:Hw BI b):Ctr Tryz.prog 69 [.c (.sl (a.map DRow.c)),.c (.sl (b.map DRow.c))] [.val (.c (.v (.bool (FT a b))))]:=by
 refine Ctr.mk Tryz.call69 Tryz.func69 rfl mixed Tryz.ntmps69 Tryz.results69 (by kernel_rfl) rfl fun hw=>?_
 have ha1:=ha.1
 have hb1:=hb.1
 simp only[go_sem,List.length_map]
 refine cndC.mk (fun h=>?_) (fun h=>?_)
 ·simp only[go_sem]
  rw[J3 a b (by simp at h; omega)]
 ·have he:a.length=b.length:=by simp at h; omega
  simp only[go_sem,List.length_map]
  refine LoopU.mk 0 (A:=Nat) (fun k=>[(5,.c (.v (.int .i64 (k))))]) (fun _=>[]) (fun k=>k≤a.length∧FT (a.drop k) (b.drop k)=FT a b) (fun k=>a.length-k) 0 ⟨⟨rfl,rfl⟩,rfl,Nat.zero_le _,rfl⟩ ?_
  rintro k ⟨hk,hf⟩
  simp only[go_sem,List.length_map]
  refine cndC.mk (fun h=>?_) (fun h=>?_)
  ·have hk':k<a.length:=by simpa using h
   have hk2:k<b.length:=by omega
   rw[NT a b hk' hk2] at hf
   have hra:=ha.2 _ (List.getElem_mem hk')
   have hrb:=hb.2 _ (List.getElem_mem hk2)
   rw[Bf] at hra hrb
   simp only[go_sem,List.length_map,AA _ hk',AA _ hk2,hk',hk2]
   try refine DrawK.mk ?_
   try simp only[go_sem,List.length_map,AA _ hk',AA _ hk2,hk',hk2]
   first | refine CallF.mk _ (by simpa only[go_sem] using NR a[k] b[k] hra.1 hrb.1) ?_ | refine CallK.mk _ (by simpa only[go_sem] using NR a[k] b[k] hra.1 hrb.1) fun _=>?_
   rcases hv:sameRow a[k] b[k] with _ | _
   ·simp only[go_sem,hv,Bool.not_false,Bool.and_true]
    rw[hv,Bool.false_and] at hf
    rw[hf]
   ·simp only[go_sem,hv,Bool.not_true,wrap_i64 (n:=(k:Int)+1) (by omega) (by omega)]
    rw[hv,Bool.true_and] at hf
    exact⟨k+1,⟨rfl,rfl⟩,rfl,⟨by omega,hf⟩,by omega⟩
  ·have hk':k=a.length:=by simp at h; omega
   subst hk'
   simp only[go_sem]
   rw[← hf,List.drop_length,he,List.drop_length]; rfl
theorem iSameRows_spec (a b:List DRow) (ha:Hw BI a) (hb:Hw BI b):Ctr Tryz.prog 71 [.c (.sl (a.map DRow.c)),.c (.sl (b.map DRow.c))] [.val (.c (.v (.bool (FT a b))))]:=by
 refine Ctr.mk Tryz.call71 Tryz.func71 rfl mixed Tryz.ntmps71 Tryz.results71 (by kernel_rfl) rfl fun hw=>?_
 have ha1:=ha.1
 have hb1:=hb.1
 simp only[go_sem,List.length_map]
 refine cndC.mk (fun h=>?_) (fun h=>?_)
 ·simp only[go_sem]
  rw[J3 a b (by simp at h; omega)]
 ·have he:a.length=b.length:=by simp at h; omega
  simp only[go_sem,List.length_map]
  refine LoopU.mk 0 (A:=Nat) (fun k=>[(13,.c (.v (.int .i64 (k))))]) (fun _=>[]) (fun k=>k≤a.length∧FT (a.drop k) (b.drop k)=FT a b) (fun k=>a.length-k) 0 ⟨⟨rfl,rfl⟩,rfl,Nat.zero_le _,rfl⟩ ?_
  rintro k ⟨hk,hf⟩
  simp only[go_sem,List.length_map]
  refine cndC.mk (fun h=>?_) (fun h=>?_)
  ·have hk':k<a.length:=by simpa using h
   have hk2:k<b.length:=by omega
   rw[NT a b hk' hk2] at hf
   have hra:=ha.2 _ (List.getElem_mem hk')
   have hrb:=hb.2 _ (List.getElem_mem hk2)
   rw[Bf] at hra hrb
   simp only[go_sem,List.length_map,AA _ hk',AA _ hk2,hk',hk2]
   try refine DrawK.mk ?_
   try simp only[go_sem,List.length_map,AA _ hk',AA _ hk2,hk',hk2]
   first | refine CallF.mk _ (by simpa only[go_sem] using NS a[k] b[k] hra.1 hrb.1) ?_ | refine CallK.mk _ (by simpa only[go_sem] using NS a[k] b[k] hra.1 hrb.1) fun _=>?_
   rcases hv:sameRow a[k] b[k] with _ | _
   ·simp only[go_sem,hv,Bool.not_false,Bool.and_true]
    rw[hv,Bool.false_and] at hf
    rw[hf]
   ·simp only[go_sem,hv,Bool.not_true,wrap_i64 (n:=(k:Int)+1) (by omega) (by omega)]
    rw[hv,Bool.true_and] at hf
    exact⟨k+1,⟨rfl,rfl⟩,rfl,⟨by omega,hf⟩,by omega⟩
  ·have hk':k=a.length:=by simp at h; omega
   subst hk'
   simp only[go_sem]
   rw[← hf,List.drop_length,he,List.drop_length]; rfl
theorem appRows_map {α:Type} {f:α→List Cl} {n:Nat} (h:∀ x,Go.Vm.rowOk n (f x)=true) (l:List α):KE n (l.map f)=true:=List.all_eq_true.2 fun r hr=>by
 obtain⟨x,_,rfl⟩:=List.mem_map.1 hr
 exact h x
theorem Gp (l:List DVal):KE 3 (l.map DVal.c)=true:=appRows_map (fun _=>rfl) l
theorem Il (l:List DVal) (h:l.length≤1048576):Ctr Tryz.prog 120 [.c (.sl (l.map DVal.c))] [.own 72 3 (l.map DVal.c) true]:=by
 refine Ctr.mk Tryz.call120 Tryz.func120 rfl mixed Tryz.ntmps120 Tryz.results120 (by kernel_rfl) rfl fun hw=>?_
 have hl:l.length≤2147483648:=by omega
 simp only[go_sem,Gp,List.length_map,hl,Option.getD_some,Bl]
 try simp
theorem Hq (r:DRow) (h:r.l.length≤1048576):Ctr Tryz.prog 116 [.agg r.c] [.agg r.o]:=by
 refine Ctr.mk Tryz.call116 Tryz.func116 rfl mixed Tryz.ntmps116 Tryz.results116 (by kernel_rfl) rfl fun hw=>?_
 simp only[go_sem]
 refine DrawK.mkE ?_
 simp only[go_sem]
 refine CallE.mk _ (Il r.l h) ?_
 simp only[go_sem,Bl]
 try simp[AU,AC]
theorem Hy (r:DRow) (h:r.l.length≤1048576):Ctr Tryz.prog 114 [.agg r.c] [.agg r.o]:=by
 refine Ctr.mk Tryz.call114 Tryz.func114 rfl mixed Tryz.ntmps114 Tryz.results114 (by kernel_rfl) rfl fun hw=>?_
 have hl:r.l.length≤2147483648:=by omega
 simp only[go_sem]
 refine DrawK.mkE ?_
 simp only[go_sem,Gp,List.length_map,hl,Option.getD_some,Bl]
 try simp[AU,AC]
def LD:List Cl:=[.v (.int .i64 0),.v (.slice none 0 0)]
def QC:Option DRow→Res
 | none=>.val (.agg [.v (.int .i64 0),.sl []])
 | some r=>.agg r.o
def Kr (l:List DRow) (n:Int):Option DRow:=l.find? fun r=>r.id==n
theorem iFind_spec (l:List DRow) (n:Int) (ha:Hw BI l):Ctr Tryz.prog 67 [.c (.sl (l.map DRow.c)),.c (.v (.int .i64 (n)))] [QC (Kr l n),.val (.c (.v (.bool ((Kr l n).isSome))))]:=by
 refine Ctr.mk Tryz.call67 Tryz.func67 rfl mixed Tryz.ntmps67 Tryz.results67 (by kernel_rfl) rfl fun hw=>?_
 have hlen:=ha.1
 simp only[go_sem,List.length_map]
 refine LoopU.mk 1 (A:=Nat) (fun k=>[(10,.c (.v (.int .i64 (k))))]) (fun _=>[⟨121,2,[LD],true,true⟩]) (fun k=>k≤l.length∧Kr (l.drop k) n=Kr l n) (fun k=>l.length-k) 0 ⟨⟨rfl,rfl⟩,rfl,Nat.zero_le _,rfl⟩ ?_
 rintro k ⟨hk,hf⟩
 simp only[go_sem,List.length_map,LD]
 refine cndC.mk (fun h=>?_) (fun h=>?_)
 ·have hk':k<l.length:=by simpa using h
  have hr:=ha.2 _ (List.getElem_mem hk')
  rw[Bf] at hr
  rw[List.drop_eq_getElem_cons hk',Kr,List.find?_cons] at hf
  simp only[go_sem,List.length_map,AA _ hk',hk',Option.getD_some]
  try refine DrawK.mk ?_
  try simp only[go_sem,List.length_map,AA _ hk',hk',Option.getD_some]
  rcases hv:l[k].id==n with _ | _
  ·simp only[go_sem,hv,wrap_i64 (n:=(k:Int)+1) (by omega) (by omega)]
   rw[hv] at hf
   exact⟨k+1,⟨rfl,rfl⟩,rfl,⟨by omega,hf⟩,by omega⟩
  ·simp only[go_sem,hv,AA _ hk',hk',Option.getD_some]
   rw[hv] at hf
   rw[← hf]
   first | refine CallK.mk _ (by simpa only[go_sem] using Hq l[k] hr.1) fun _=>?_ | (refine DrawK.mkE ?_; simp only[go_sem,List.length_map,AA _ hk',hk',Option.getD_some]; refine CallE.mk _ (by simpa only[go_sem] using Hq l[k] hr.1) ?_)
   simp only[go_sem,QC,Bl]
   try simp[AU,AC]
 ·have hk':k=l.length:=by simp at h; omega
  subst hk'
  rw[List.drop_length] at hf
  have hn:Kr l n=none:=by rw[← hf]; rfl
  simp only[go_sem,hn,QC,LD,Option.isSome_none]
  trace_state
theorem sFind_spec (l:List DRow) (n:Int) (ha:Hw BI l):Ctr Tryz.prog 65 [.c (.sl (l.map DRow.c)),.c (.v (.int .i64 (n)))] [QC (Kr l n),.val (.c (.v (.bool ((Kr l n).isSome))))]:=by
 refine Ctr.mk Tryz.call65 Tryz.func65 rfl mixed Tryz.ntmps65 Tryz.results65 (by kernel_rfl) rfl fun hw=>?_
 have hlen:=ha.1
 simp only[go_sem,List.length_map]
 refine LoopU.mk 1 (A:=Nat) (fun k=>[(6,.c (.v (.int .i64 (k))))]) (fun _=>[⟨121,2,[LD],true,true⟩]) (fun k=>k≤l.length∧Kr (l.drop k) n=Kr l n) (fun k=>l.length-k) 0 ⟨⟨rfl,rfl⟩,rfl,Nat.zero_le _,rfl⟩ ?_
 rintro k ⟨hk,hf⟩
 simp only[go_sem,List.length_map,LD]
 refine cndC.mk (fun h=>?_) (fun h=>?_)
 ·have hk':k<l.length:=by simpa using h
  have hr:=ha.2 _ (List.getElem_mem hk')
  rw[Bf] at hr
  rw[List.drop_eq_getElem_cons hk',Kr,List.find?_cons] at hf
  simp only[go_sem,List.length_map,AA _ hk',hk',Option.getD_some]
  try refine DrawK.mk ?_
  try simp only[go_sem,List.length_map,AA _ hk',hk',Option.getD_some]
  rcases hv:l[k].id==n with _ | _
  ·simp only[go_sem,hv,wrap_i64 (n:=(k:Int)+1) (by omega) (by omega)]
   rw[hv] at hf
   exact⟨k+1,⟨rfl,rfl⟩,rfl,⟨by omega,hf⟩,by omega⟩
  ·simp only[go_sem,hv,AA _ hk',hk',Option.getD_some]
   rw[hv] at hf
   rw[← hf]
   first | refine CallK.mk _ (by simpa only[go_sem] using Hy l[k] hr.1) fun _=>?_ | (refine DrawK.mkE ?_; simp only[go_sem,List.length_map,AA _ hk',hk',Option.getD_some]; refine CallE.mk _ (by simpa only[go_sem] using Hy l[k] hr.1) ?_)
   simp only[go_sem,QC,Bl]
   try simp[AU,AC]
 ·have hk':k=l.length:=by simp at h; omega
  subst hk'
  rw[List.drop_length] at hf
  have hn:Kr l n=none:=by rw[← hf]; rfl
  simp only[go_sem,hn,QC,LD,Option.isSome_none]
  trace_state
theorem Hz (out:List DVal) (v:DVal):(out ++ [v]).map DVal.c=out.map DVal.c ++ [[.v (.int .i64 v.ty),.v (.int .i64 v.n),.v (.string v.s)]]:=by simp[DVal.c_eq]
def B_ (l:List DRow) (k:Int):List DVal:=l.filterMap fun r=>if 0≤k then r.l[k.toNat]? else none
theorem VQ {l:List DRow} {n:Int} {k:Nat} (h:k<l.length):B_ (l.drop k) n=(if h2:0≤n∧n.toNat<l[k].l.length then [l[k].l[n.toNat]'h2.2] else [])++B_ (l.drop (k+1)) n:=by
 unfold B_
 rw[List.drop_eq_getElem_cons h,List.filterMap_cons]
 by_cases h1:0≤n
 ·by_cases h2:n.toNat<l[k].l.length
  ·simp[h1,h2]
  ·simp[h1,h2]
 ·simp[h1]
theorem Oi (l:List DRow) (n:Int) (ha:Hw BI l):Ctr Tryz.prog 138 [.c (.sl (l.map DRow.c)),.c (.v (.int .i64 (n)))] [.own 72 3 ((B_ l n).map DVal.c) true]:=by
 refine Ctr.mk Tryz.call138 Tryz.func138 rfl mixed Tryz.ntmps138 Tryz.results138 (by kernel_rfl) rfl fun hw=>?_
 have hlen:=ha.1
 simp only[go_sem,List.length_map]
 refine LoopH.mk [8] (A:=Nat×List DVal) (fun x=>[(11,.c (.v (.int .i64 (x.1)))),(5,.c (.ref 0))]) (fun x=>[⟨72,3,x.2.map DVal.c,true,true⟩]) (fun x=>x.1≤l.length∧x.2++B_ (l.drop x.1) n=B_ l n) (fun x=>l.length-x.1) (0,[]) (Head.sel [(0,false)] ⟨rfl,rfl,rfl,trivial⟩ rfl) ⟨Nat.zero_le _,rfl⟩ ?_
 rintro⟨k,out⟩ ⟨hk,hb⟩
 dsimp only at hk hb
 have hol:out.length≤l.length:=by
  have h1:(B_ l n).length≤l.length:=List.length_filterMap_le _ _
  rw[← hb] at h1
  simp at h1; omega
 simp only[go_sem,List.length_map]
 refine cndC.mk (fun h=>?_) (fun h=>?_)
 ·have hk':k<l.length:=by simpa using h
  have hr:=ha.2 _ (List.getElem_mem hk')
  rw[Bf] at hr
  have hrl:=hr.1
  rw[VQ hk'] at hb
  simp only[go_sem,List.length_map,AA _ hk',hk',Option.getD_some]
  try refine DrawK.mk ?_
  try simp only[go_sem,List.length_map,AA _ hk',hk',Option.getD_some]
  by_cases hn:0≤n∧n.toNat<l[k].l.length
  ·rw[dif_pos hn] at hb
   obtain⟨m,rfl⟩:=Int.eq_ofNat_of_zero_le hn.1
   have hm:m<l[k].l.length:=by have:=hn.2; simpa using this
   have e1:decide ((m:Int)≥0)=true:=by simp
   have e2:decide ((m:Int)<(l[k].l.length:Int))=true:=by simp; omega
   have hol2:out.length+1≤1099511627776:=by
    have h1:(B_ l (m:Int)).length≤l.length:=List.length_filterMap_le _ _
    have h2:=congrArg List.length hb
    simp at h2; omega
   simp only[go_sem,List.length_map,AA _ hk',AA _ hm,hk',hm,e1,e2,hol2,Option.getD_some]
   try refine DrawK.mkE ?_
   simp only[go_sem,List.all_cons,List.all_nil,List.length_map,AA _ hk',AA _ hm,hk',hm,e1,e2,hol2,Option.getD_some,wrap_i64 (n:=(k:Int)+1) (by omega) (by omega)]
   exact⟨(k+1,out ++ [l[k].l[m]]),Head.sel [(3,false)] ⟨rfl,rfl,by rw[← Hz]; exact AL DVal.pure,trivial⟩ (by rw[← Hz]; rfl),⟨hk',by rw[← hb,List.append_assoc]; rfl⟩,by simp only; omega⟩
  ·rw[dif_neg hn,List.nil_append] at hb
   have hfin:∀ P:Prop,P→P:=fun _ h=>h
   rcases h1:decide (n≥0) with _ | _
   ·simp only[go_sem,List.length_map,AA _ hk',hk',h1,wrap_i64 (n:=(k:Int)+1) (by omega) (by omega)]
    exact⟨(k+1,out),Head.sel [(0,false)] ⟨rfl,rfl,AL DVal.pure,trivial⟩ rfl,⟨hk',hb⟩,by simp only; omega⟩
   ·have h2:decide (n<(l[k].l.length:Int))=false:=by simp at h1 ⊢; have:¬ n.toNat<l[k].l.length:=fun hh=>hn ⟨h1,hh⟩; omega
    simp only[go_sem,List.length_map,AA _ hk',hk',h1,h2,wrap_i64 (n:=(k:Int)+1) (by omega) (by omega)]
    exact⟨(k+1,out),Head.sel [(0,false)] ⟨rfl,rfl,AL DVal.pure,trivial⟩ rfl,⟨hk',hb⟩,by simp only; omega⟩
 ·have hk':k=l.length:=by simp at h; omega
  subst hk'
  rw[List.drop_length] at hb
  have:out=B_ l n:=by simpa [B_] using hb
  subst this
  simp only[go_sem,Bl]
  try simp
theorem WH (l:List DRow) (n:Int) (ha:Hw BI l):Ctr Tryz.prog 132 [.c (.sl (l.map DRow.c)),.c (.v (.int .i64 (n)))] [.own 72 3 ((B_ l n).map DVal.c) true]:=by
 refine Ctr.mk Tryz.call132 Tryz.func132 rfl mixed Tryz.ntmps132 Tryz.results132 (by kernel_rfl) rfl fun hw=>?_
 have hlen:=ha.1
 simp only[go_sem,List.length_map]
 refine LoopH.mk [7] (A:=Nat×List DVal) (fun x=>[(6,.c (.v (.int .i64 (x.1)))),(5,.c (.ref 0))]) (fun x=>[⟨72,3,x.2.map DVal.c,true,true⟩]) (fun x=>x.1≤l.length∧x.2++B_ (l.drop x.1) n=B_ l n) (fun x=>l.length-x.1) (0,[]) (Head.sel [(0,false)] ⟨rfl,rfl,rfl,trivial⟩ rfl) ⟨Nat.zero_le _,rfl⟩ ?_
 rintro⟨k,out⟩ ⟨hk,hb⟩
 dsimp only at hk hb
 have hol:out.length≤l.length:=by
  have h1:(B_ l n).length≤l.length:=List.length_filterMap_le _ _
  rw[← hb] at h1
  simp at h1; omega
 simp only[go_sem,List.length_map]
 refine cndC.mk (fun h=>?_) (fun h=>?_)
 ·have hk':k<l.length:=by simpa using h
  have hr:=ha.2 _ (List.getElem_mem hk')
  rw[Bf] at hr
  have hrl:=hr.1
  rw[VQ hk'] at hb
  simp only[go_sem,List.length_map,AA _ hk',hk',Option.getD_some]
  try refine DrawK.mk ?_
  try simp only[go_sem,List.length_map,AA _ hk',hk',Option.getD_some]
  refine CallK.mk _ (Am n 0 _) fun _=>?_
  rw[wrap_i64 (n:=(l[k].l.length:Int)-1) (by omega) (by omega)]
  by_cases hn:0≤n∧n.toNat<l[k].l.length
  ·rw[dif_pos hn] at hb
   obtain⟨m,rfl⟩:=Int.eq_ofNat_of_zero_le hn.1
   have hm:m<l[k].l.length:=by have:=hn.2; simpa using this
   have e1:BQ (m:Int) 0 ((l[k].l.length:Int)-1)=true:=by simp[BQ]; omega
   have hol2:out.length+1≤1099511627776:=by
    have h1:(B_ l (m:Int)).length≤l.length:=List.length_filterMap_le _ _
    have h2:=congrArg List.length hb
    simp at h2; omega
   simp only[go_sem,List.length_map,AA _ hk',AA _ hm,hk',hm,e1,hol2,Option.getD_some]
   try refine DrawK.mkE ?_
   simp only[go_sem,List.all_cons,List.all_nil,List.length_map,AA _ hk',AA _ hm,hk',hm,e1,hol2,Option.getD_some,wrap_i64 (n:=(k:Int)+1) (by omega) (by omega)]
   exact⟨(k+1,out ++ [l[k].l[m]]),Head.sel [(2,false)] ⟨rfl,rfl,by rw[← Hz]; exact AL DVal.pure,trivial⟩ (by rw[← Hz]; rfl),⟨hk',by rw[← hb,List.append_assoc]; rfl⟩,by simp only; omega⟩
  ·rw[dif_neg hn,List.nil_append] at hb
   have e1:BQ n 0 ((l[k].l.length:Int)-1)=false:=by simp[BQ]; intro h1; have:¬ n.toNat<l[k].l.length:=fun hh=>hn ⟨h1,hh⟩; omega
   simp only[go_sem,List.length_map,AA _ hk',hk',e1,wrap_i64 (n:=(k:Int)+1) (by omega) (by omega)]
   exact⟨(k+1,out),Head.sel [(0,false)] ⟨rfl,rfl,AL DVal.pure,trivial⟩ rfl,⟨hk',hb⟩,by simp only; omega⟩
 ·have hk':k=l.length:=by simp at h; omega
  subst hk'
  rw[List.drop_length] at hb
  have:out=B_ l n:=by simpa [B_] using hb
  subst this
  simp only[go_sem,Bl]
  try simp
end Go.Proofs.YthoeeoddgkjkkaaGreat
/- Walks: rows cloned. -/
namespace Go.Proofs.YthoeeoddgkjkkaaGreat
set_option linter.unusedSimpArgs false
set_option linter.unusedVariables false
open Go.Vm
set_option maxHeartbeats 2000000
set_option maxRecDepth 10000
theorem allA {N:Nat} {a:Ob} (ha:Bh N a=true) : [a].all (Bh N)=true:=by simp[ha]
theorem TG (l:List DRow) (hl:fitS BI l):Ctr Tryz.prog 73 [.c (.sl (l.map DRow.c))] [.own 121 2 (l.map DRow.o) true]:=by
 refine Ctr.mk Tryz.call73 Tryz.func73 rfl mixed Tryz.ntmps73 Tryz.results73 (by kernel_rfl) rfl fun hw=>?_
 have hlen:=hl.1
 simp only[go_sem,List.length_map]
 refine LoopH.mk [6] (A:=Nat×List DRow) (fun x=>[(4,.c (.v (.int .i64 (x.1)))),(3,.c (.ref 0))]) (fun x=>[⟨121,2,x.2.map DRow.o,true,true⟩]) (fun x=>x.1≤l.length∧x.2.length≤x.1∧x.2++l.drop x.1=l) (fun x=>l.length-x.1) (0,[]) (Head.sel [(0,false)] ⟨rfl,rfl,rfl,trivial⟩ rfl) ⟨Nat.zero_le _,Nat.le_refl _,rfl⟩ ?_
 rintro⟨k,out⟩ ⟨hk,hol,hb⟩
 dsimp only at hk hol hb
 simp only[go_sem,List.length_map]
 refine cndC.mk (fun h=>?_) (fun h=>?_)
 ·have hk':k<l.length:=by simpa using h
  rw[List.drop_eq_getElem_cons hk'] at hb
  have hr:=hl.2 _ (List.getElem_mem hk')
  rw[Bf] at hr
  have hrl:=hr.1
  have hol2:out.length+1≤2147483648:=by omega
  simp only[go_sem,List.length_map,AA _ hk',hk',Option.getD_some]
  refine CallK.mk _ (by simpa only[go_sem] using Hy l[k] hrl) fun _=>?_
  simp only[go_sem,List.all_cons,List.all_nil,List.length_map,AA _ hk',hk',hol2,PS,Bool.false_eq_true,Option.getD_some,wrap_i64 (n:=(k:Int)+1) (by omega) (by omega)]
  refine⟨(k+1,out ++ [l[k]]),Head.selAbs [(4,true),(1,false)] 1 0 ⟨rfl,rfl,I4 DRow.o_nr _ out rfl,AL DVal.pure,trivial⟩ ⟨out.length,out.map DRow.o ++ [DRow.o l[k]],_,DRow.o l[k],_,⟨Nat.lt_succ_self 0,rfl,Iz DRow.o_nr _ out _ _,by simp,rfl⟩,
   ⟨rfl,rfl,rfl,rfl,rfl,rfl,Bl _,by simp[GI],fun l hl=>by simp[GI] at hl; omega⟩,⟨rfl, ?tr⟩, ?eq⟩,⟨hk',by simp; omega,(List.append_assoc _ _ _).trans hb⟩,by simp only; omega⟩
  case tr=>unfold BN; rw[CE]; exact allA (Ad (AX _))
  case eq=>unfold BN; rw[CE,List.map_append]; rfl
 ·have hk':k=l.length:=by simp at h; omega
  subst hk'
  rw[List.drop_length] at hb
  have:out=l:=by simpa using hb
  subst this
  simp only[go_sem,AX]
  try simp
end Go.Proofs.YthoeeoddgkjkkaaGreat
