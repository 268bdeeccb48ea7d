/- Walks: the dictionary of the specification. -/
import Derived.Test.YthoeeoddgkjkkaaGreatYj
namespace Go.Proofs.YthoeeoddgkjkkaaGreat
set_option linter.unusedSimpArgs false
set_option linter.unusedVariables false
open Go.Vm
set_option maxHeartbeats 2000000
set_option maxRecDepth 10000
theorem Ij {s:MS} (l:Nat) {ob:Ob} (h:Cc s.st l=some ob) (hp:E5 ob.xs=true):Head s ⟨s.n,s.env,OG s.st l⟩:=Head.frz [l] (by simp only[RJ,h,hp,if_true])
theorem Ko (l:List DVal):((l.map DVal.c).all fun r=>r.length==3)=true:=List.all_eq_true.2 fun r hr=>by
 obtain⟨x,_,rfl⟩:=List.mem_map.1 hr
 rfl
theorem Ui (v x:DVal) (r:List DVal):ins v (x::r)=if Bi x v=true then x::ins v r else if Ik x v=true then x::r else v::x::r:=rfl
theorem gu (v:DVal):∀ {d:List DVal},(∀ m (h:m<d.length),Bi d[m] v=true)→ins v d=d ++ [v]
 | [],_=>rfl
 | x::r,h=>by
  have h0:=h 0 (by simp)
  simp only[List.getElem_cons_zero] at h0
  rw[Ui,if_pos h0,gu v fun m hm=>by
   have:=h (m+1) (by simpa using hm)
   simpa using this]
  rfl
theorem gy (v:DVal):∀ {d:List DVal} {k:Nat} (hk:k<d.length),(∀ m (h:m<d.length),m<k→Bi d[m] v=true)→Bi d[k] v=false→ins v d=if Ik d[k] v=true then d else d.take k++v::d.drop k
 | [],k,hk,_,_=>by simp at hk
 | x::r,0,_,_,h2=>by
  simp only[List.getElem_cons_zero] at h2
  rw[Ui,h2,if_neg (by simp)]
  rfl
 | x::r,k+1,hk,h1,h2=>by
  have h0:=h1 0 (by simp) (by omega)
  simp only[List.getElem_cons_zero] at h0
  simp only[List.getElem_cons_succ] at h2
  rw[Ui,if_pos h0,gy v (k:=k) (by simpa using hk) (fun m hm hm2=>by
   have:=h1 (m+1) (by simpa using hm) (by omega)
   simpa using this) h2]
  simp only[List.getElem_cons_succ]
  split<;>rfl
theorem jq {l:List DVal} {i:Nat} (h:i<l.length):BV (l.take (i+1))=ins l[i] (BV (l.take i)):=by
 rw[take_snoc h]
 simp only[BV,List.foldl_append,List.foldl_cons,List.foldl_nil]
theorem Oa (a b:List DVal) (v:DVal):(a++v::b).map DVal.c=a.map DVal.c ++ [v.c]++b.map DVal.c:=by simp
theorem IQ (a b:List DVal) (v:DVal):E5 (a.map DVal.c ++ [v.c]++b.map DVal.c)=true:=by rw[← Oa]; exact KR _
theorem dh (l:List DVal) (hl:l.length≤1048576):Ctr Tryz.prog 240 [.c (.sl (l.map DVal.c))] [.val (.c (.sl ((BV l).map DVal.c)))]:=by
 refine Ctr.mk Tryz.call240 Tryz.func240 rfl mixed Tryz.ntmps240 Tryz.results240 (by kernel_rfl) rfl fun hw=>?_
 simp only[go_sem]
 refine LoopH.mk [6] (A:=Nat) (fun x=>[(4,.c (.v (.int .i64 (x)))),(3,.c (.ref 0))]) (fun x=>[⟨72,3,(BV (l.take x)).map DVal.c,false,true⟩]) (fun x=>x≤l.length) (fun x=>l.length-x) 0 (Head.trans (Head.frz [0] rfl) (Head.sel [(0,false)] ⟨rfl,rfl,rfl,trivial⟩ rfl)) (Nat.zero_le _) ?_
 rintro i hi
 simp only[go_sem]
 refine cndC.mk (fun h=>?_) (fun h=>?_)
 ·have hi':i<l.length:=by simp at h; omega
  have hdl:=Jv (l.take i)
  rw[List.length_take] at hdl
  have hds:=jq hi'
  generalize hd:BV (l.take i)=d at hdl hds
  simp only[go_sem,hd]
  refine LoopU.mk 1 (A:=Nat) (fun x=>[(5,.c (.v (.int .i64 (x))))]) (fun _=>[⟨72,3,d.map DVal.c,false,true⟩]) (fun x=>x≤d.length∧∀ m (h:m<d.length),m<x→Bi d[m] l[i]=true) (fun x=>d.length-x) 0 ⟨⟨rfl,all1 (Ad (Bl _))⟩,rfl,Nat.zero_le _,fun m h h2=>by omega⟩ ?_
  rintro k ⟨hk,hless⟩
  rcases h2:decide ((k:Int)<(d.length:Int)) with _ | _
  ·have h2':k=d.length:=by simp at h2; omega
   have hkle:k≤d.length:=hk
   have hins:=gu l[i] fun m hm=>hless m hm (by omega)
   have hds:BV (l.take (i+1))=d.take k++l[i]::d.drop k:=by rw[hds,hins,h2']; simp
   have h3:((k:Int)==(d.length:Int))=true:=by simp; omega
   simp only[go_sem]
   refine DrawK.mk ?_
   simp only[go_sem,h2]
   refine DrawK.mk ?_
   simp only[go_sem,h3]
   have hkm:min k d.length=k:=by omega
   have g1:k≤2147483648:=by omega
   have g2:k+1≤2147483648:=by omega
   have g3:k+1+(d.length-k)≤2147483648:=by omega
   have htk:(d.drop k).take (d.length-k)=d.drop k:=List.take_of_length_le (by simp)
   refine DrawK.split 4 9 [0,1,2,3,4,5,6,7,8,9,10,11,12,13,14,15] [0,5,6,7,8,9,1,2,3,4,10,11,12,13,14,15] rfl (by kernel_rfl) (by kernel_rfl) ?_ ?_
   ·simp only[go_sem]
    refine DrawK.mkE ?_
    simp only[go_sem,AA _ hi',Ko,Gp,Nat.le_refl,Nat.zero_le,Nat.sub_zero,hkle,hkm,g1,g2,g3,← List.map_take,← List.map_drop,List.length_take,List.length_drop,List.drop_zero,List.nil_append,htk,List.take_length,wrap_i64 (n:=(i:Int)+1) (by omega) (by omega)]
    exact⟨i+1,Head.trans (Ij 5 rfl (IQ _ _ _)) (Head.sel [(5,false)] ⟨rfl,rfl,IQ _ _ _,trivial⟩ (by rw[hds,Oa]; rfl)),hi',by omega⟩
   ·simp only[go_sem]
    refine DrawK.split 0 5 [0,1,2,3,4,5,6,7,8,9,10,11,12,13,14,15] [1,2,3,4,5,0,6,7,8,9,10,11,12,13,14,15] rfl (by kernel_rfl) (by kernel_rfl) ?_ ?_
    ·simp only[go_sem]
     refine DrawK.mkE ?_
     simp only[go_sem,AA _ hi',Ko,Gp,Nat.le_refl,Nat.zero_le,Nat.sub_zero,hkle,hkm,g1,g2,g3,← List.map_take,← List.map_drop,List.length_take,List.length_drop,List.drop_zero,List.nil_append,htk,List.take_length,wrap_i64 (n:=(i:Int)+1) (by omega) (by omega)]
     exact⟨i+1,Head.trans (Ij 5 rfl (IQ _ _ _)) (Head.sel [(5,false)] ⟨rfl,rfl,IQ _ _ _,trivial⟩ (by rw[hds,Oa]; rfl)),hi',by omega⟩
    ·simp only[go_sem]
     refine DrawK.mkE ?_
     simp only[go_sem,AA _ hi',Ko,Gp,Nat.le_refl,Nat.zero_le,Nat.sub_zero,hkle,hkm,g1,g2,g3,← List.map_take,← List.map_drop,List.length_take,List.length_drop,List.drop_zero,List.nil_append,htk,List.take_length,wrap_i64 (n:=(i:Int)+1) (by omega) (by omega)]
     exact⟨i+1,Head.trans (Ij 5 rfl (IQ _ _ _)) (Head.sel [(5,false)] ⟨rfl,rfl,IQ _ _ _,trivial⟩ (by rw[hds,Oa]; rfl)),hi',by omega⟩
  have h2':k<d.length:=by simpa using h2
  simp only[go_sem]
  refine DrawK.mk ?_
  simp only[go_sem,h2,h2',AA _ h2',AA _ hi']
  have e1:(d[k].ty==l[i].ty&&(d[k].n==l[i].n&&d[k].s.toList==l[i].s.toList))=Ik d[k] l[i]:=rfl
  refine CallF.mk _ (by simpa only[go_sem] using ER d[k] l[i]) ?_
  rcases h3:Bi d[k] l[i] with _ | _
  ·have hins:=gy l[i] h2' hless h3
   have h4:((k:Int)==(d.length:Int))=false:=by simp; omega
   simp only[go_sem]
   refine DrawK.mk ?_
   simp only[go_sem,h4,h2',AA _ h2',AA _ hi',Jd,P9,e1]
   rcases h5:Ik d[k] l[i] with _ | _
   rotate_left
   ·have hds:BV (l.take (i+1))=d:=by rw[hds,hins,if_pos h5]
    simp only[go_sem,h5,wrap_i64 (n:=(i:Int)+1) (by omega) (by omega)]
    exact⟨i+1,Head.sel [(0,false)] ⟨rfl,rfl,KR _,trivial⟩ (by rw[hds]; rfl),hi',by omega⟩
   have hds:BV (l.take (i+1))=d.take k++l[i]::d.drop k:=by rw[hds,hins,h5,if_neg (by simp)]
   have hkle:k≤d.length:=hk
   simp only[go_sem,h5]
   have hkm:min k d.length=k:=by omega
   have g1:k≤2147483648:=by omega
   have g2:k+1≤2147483648:=by omega
   have g3:k+1+(d.length-k)≤2147483648:=by omega
   have htk:(d.drop k).take (d.length-k)=d.drop k:=List.take_of_length_le (by simp)
   refine DrawK.split 4 9 [0,1,2,3,4,5,6,7,8,9,10,11,12,13,14,15] [0,5,6,7,8,9,1,2,3,4,10,11,12,13,14,15] rfl (by kernel_rfl) (by kernel_rfl) ?_ ?_
   ·simp only[go_sem]
    refine DrawK.mkE ?_
    simp only[go_sem,AA _ hi',Ko,Gp,Nat.le_refl,Nat.zero_le,Nat.sub_zero,hkle,hkm,g1,g2,g3,← List.map_take,← List.map_drop,List.length_take,List.length_drop,List.drop_zero,List.nil_append,htk,List.take_length,wrap_i64 (n:=(i:Int)+1) (by omega) (by omega)]
    exact⟨i+1,Head.trans (Ij 5 rfl (IQ _ _ _)) (Head.sel [(5,false)] ⟨rfl,rfl,IQ _ _ _,trivial⟩ (by rw[hds,Oa]; rfl)),hi',by omega⟩
   ·simp only[go_sem]
    refine DrawK.split 0 5 [0,1,2,3,4,5,6,7,8,9,10,11,12,13,14,15] [1,2,3,4,5,0,6,7,8,9,10,11,12,13,14,15] rfl (by kernel_rfl) (by kernel_rfl) ?_ ?_
    ·simp only[go_sem]
     refine DrawK.mkE ?_
     simp only[go_sem,AA _ hi',Ko,Gp,Nat.le_refl,Nat.zero_le,Nat.sub_zero,hkle,hkm,g1,g2,g3,← List.map_take,← List.map_drop,List.length_take,List.length_drop,List.drop_zero,List.nil_append,htk,List.take_length,wrap_i64 (n:=(i:Int)+1) (by omega) (by omega)]
     exact⟨i+1,Head.trans (Ij 5 rfl (IQ _ _ _)) (Head.sel [(5,false)] ⟨rfl,rfl,IQ _ _ _,trivial⟩ (by rw[hds,Oa]; rfl)),hi',by omega⟩
    ·simp only[go_sem]
     refine DrawK.mkE ?_
     simp only[go_sem,AA _ hi',Ko,Gp,Nat.le_refl,Nat.zero_le,Nat.sub_zero,hkle,hkm,g1,g2,g3,← List.map_take,← List.map_drop,List.length_take,List.length_drop,List.drop_zero,List.nil_append,htk,List.take_length,wrap_i64 (n:=(i:Int)+1) (by omega) (by omega)]
     exact⟨i+1,Head.trans (Ij 5 rfl (IQ _ _ _)) (Head.sel [(5,false)] ⟨rfl,rfl,IQ _ _ _,trivial⟩ (by rw[hds,Oa]; rfl)),hi',by omega⟩
  ·simp only[go_sem,wrap_i64 (n:=(k:Int)+1) (by omega) (by omega)]
   exact⟨k+1,⟨rfl,all1 (Ad (Bl _))⟩,rfl,⟨h2',fun m h4 h5=>by
    by_cases e:m=k
    ·subst e; exact h3
    ·exact hless m h4 (by omega)⟩,by omega⟩
 ·have hi':i=l.length:=by simp at h; omega
  subst hi'
  simp only[go_sem,List.take_length]
  try simp[AU,AC]
end Go.Proofs.YthoeeoddgkjkkaaGreat
