/- Parts of the proof, in order. -/
import Derived.Test.YtaiflhahcglpgaaGreatDoorMPlanMakes3

namespace Go.Proofs.YtaiflhahcglpgaaGreatDoor.Rc
open Go Am
def Qk0:IL:=[jg 1 1 0,je 2]
def Qk1:IL:=[jj 7 3 1,js 8 5 7,jy 9 8]
def Qk2:IL:=[yb 2]
def Qk3:IL:=[jj 11 3 1,js 12 6 11,ja 10 12,jz 13 10 0,jz 14 10 1,UT 3 3,jo 2 3 13,ja 4 14]
def Qk4:IL:=[jj 16 3 1,js 17 7 16,ja 15 17,jz 18 15 0,jz 19 15 1,UT 5 5,jo 2 5 18,ja 6 19]
def Qk5:IL:=[ja 20 4,ja 21 6,zq 22 20 21,ja 23 22,DL 24 2 3 23,DL 25 2 5 23,YN 26 8 24 25 23,ji 27 23 26,ja 28 27,⟨some 29,.call (.f 9) [],(some (28,true))⟩,ji 30 28 29,ja 2 30]
def r3:RC:=jQ Qk0 (.seq (jQ Qk1 (.cond (.t 9) (jQ Qk2 (.ret)) (.skip))) (jQ Qk3 (jQ Qk4 (jQ Qk5 (.ret)))))
def o3:List RR:=[.tmp 2]
theorem k3:CT 3 31 r3 o3:=ck Tryz.func3 Tryz.ntmps3 (by decide +kernel)
def QwQ:IL:=[jg 1 1 0,je 2]
def QwR:IL:=[jj 9 3 1,js 10 5 9,jy 11 10,ja 12 11,zz 13 3 1 12,zg 14 10 13 12,zf 15 14 12,jq 16 12 15]
def QwS:IL:=[yb 2]
def QwT:IL:=[jj 18 3 1,js 19 6 18,ja 17 19,jz 20 17 0,jz 21 17 1,UT 3 3,jo 2 3 20,ja 4 21]
def QwU:IL:=[ja 22 4,yo 23 22 0,ja 24 23,zz 25 2 3 24,zg 26 11 25 24,MY 27 26 0 24,jq 28 24 27,ja 29 28,jm 30 0 3 29,jv 31 30 29,yw 32 1 31 29,jm 33 0 1 29,jv 34 33 29,yw 35 1 34 29,zj 36 32 35 29,jq 37 29 36,ja 38 37,jm 39 1 3 38,jv 40 39 38,yw 41 1 40 38,jm 42 1 1 38,jv 43 42 38,yw 44 1 43 38,zj 45 41 44 38,jq 46 38 45]
def QwV:IL:=[je 2]
def QwW:IL:=[jd 5 0]
def QwX:IL:=[ja 47 5,jb 48 0 1,jc 49 48,jk 50 1 49,jr 51 47 50]
def QwY:IL:=[jb 54 0 1,jt 55 0 1 54,ja 56 5,jl 57 5 55 56,ym 58 5 57,jb 59 0 3,jt 60 0 3 59,ja 61 5,jl 62 3 60 61,ym 63 3 62,ze 6 6,MX 7 7,yz 0 6 5 6 58,yz 0 7 3 7 63]
def Qpc:IL:=[jb 64 0 7,jc 65 64,jb 66 0 6,jc 67 66,⟨some 68,.val (.bin .str .neq (.t 65) (.t 67)),none⟩,ja 69 68,jm 70 1 7 69,jv 71 70 69,yw 72 1 71 69,jm 73 1 6 69,jv 74 73 69,yw 75 1 74 69,zj 76 72 75 69,jq 77 69 76]
def Qpd:IL:=[je 2]
def Qpe:IL:=[jd 8 0]
def Qpf:IL:=[ja 78 8,jb 79 1 6,jc 80 79,jk 81 1 80,jr 82 78 81]
def Qpg:IL:=[jj 85 2 3,jj 86 3 1,jj 87 5 6,jj 88 3 7,ja 89 8,⟨some 90,.call (.f 12) [(.t 85),(.t 86),(.t 87),(.t 88),(.t 89)],none⟩,jy 91 90]
def Qph:IL:=[je 2]
def Qpi:IL:=[ja 83 8,jn 84 83 1,ja 8 84]
def QwZ:RC:=.seq (jQ Qpf (jX 82 2)) (.seq (.block 3 (jQ Qpg (.cond (.t 91) (jQ Qph (.ret)) (.skip)))) (.reg Qpi))
def Qw0:IL:=[ja 52 5,jn 53 52 1,ja 5 53]
def Qw1:RC:=.gho (.drop 7) (.gho (.drop 6) (.seq (jQ QwX (jX 51 0)) (.seq (.block 1 (jD QwY (.seq (jQ Qpc (.cond (.t 77) (jQ Qpd (.ret)) (.skip))) (jQ Qpe (.block 2 (.loop QwZ)))))) (.reg Qw0))))
def Qpj:IL:=[⟨some 92,.call (.f 9) [],none⟩,ja 2 92]
def r4:RC:=jQ QwQ (.seq (jQ QwR (.cond (.t 16) (jQ QwS (.ret)) (.skip))) (jQ QwT (.seq (jQ QwU (.cond (.t 46) (jQ QwV (.ret)) (.skip))) (.seq (jQ QwW (.block 0 (.loop Qw1))) (jQ Qpj (.ret))))))
def o4:List RR:=[.tmp 2]
theorem k4:CT 4 93 r4 o4:=ck Tryz.func4 Tryz.ntmps4 (by decide +kernel)
abbrev Qw2:IL:=[jg 1 1 0,je 2]
abbrev Qw3:IL:=[jb 3 0 1,jc 4 3,jk 5 1 4,DM 6 5 8,ja 7 6,jf 8 1 1 7,jp 9 8 7,ya 10 1 9 7,yn 11 10 8 7,ji 12 7 11,ja 13 12,jf 14 2 1 13,jp 15 14 13,ya 16 1 15 13,yn 17 16 8 13,ji 18 13 17,ja 2 18]
abbrev r5:RC:=jQ Qw2 (jQ Qw3 (.ret))
abbrev o5:List RR:=[.tmp 2]
theorem k5:CT 5 19 r5 o5:=ck Tryz.func5 Tryz.ntmps5 (by decide +kernel)
def Qpk:IL:=[jg 5 5 0,jg 6 6 1,jg 7 7 2,jg 8 8 3,je 10]
def Qpl:IL:=[jb 18 1 7,jt 19 0 7 18,ja 20 4,jl 21 16 19 20,ym 22 16 21,jb 23 1 8,jt 24 0 8 23,ja 25 4,jl 26 8 24 25,ym 27 8 26,zt 11 11,Ni 12 12,yz 0 11 16 11 22,yz 0 12 8 12 27]
def Qpm:IL:=[jb 28 0 12,jc 29 28,jb 30 0 11,jc 31 30,⟨some 32,.val (.bin .num .neq (.t 29) (.t 31)),none⟩,ja 33 32,jm 34 1 12 33,jv 35 34 33,jm 36 1 11 33,jv 37 36 33,⟨some 38,.val (.bin .str .neq (.t 35) (.t 37)),(some (33,false))⟩,jq 39 33 38,ja 40 39,jm 41 3 12 40,jv 42 41 40,jm 43 2 11 40,jv 44 43 40,zj 45 42 44 40,jq 46 40 45,ja 47 46,jm 48 4 12 47,jv 49 48 47,jm 50 3 11 47,jv 51 50 47,zj 52 49 51 47,jq 53 47 52,ja 54 53,jm 55 5 12 54,jv 56 55 54,jm 57 4 11 54,jm 58 0 57 54,jv 59 58 54,zj 60 56 59 54,jq 61 54 60,ja 62 61,jm 63 7 12 62,jv 64 63 62,⟨some 65,.val (.bin .num .geq (.t 64) (.c (.int .i64 0))),(some (62,false))⟩,jm 66 6 11 62,jv 67 66 62,⟨some 68,.val (.bin .str .neq (.t 67) (.c (.str []))),(some (62,false))⟩,⟨some 69,.val (.bin .bool .neq (.t 65) (.t 68)),(some (62,false))⟩,jq 70 62 69,ja 71 70,jm 72 7 12 71,jv 73 72 71,jm 74 2 8 71,jv 75 74 71,⟨some 76,.val (.bin .num .geq (.t 73) (.t 75)),(some (71,false))⟩,jq 77 71 76]
def Qpn:IL:=[je 10]
def Qpo:IL:=[jd 13 0]
def Qpp:IL:=[ja 78 13,ja 79 4,jr 80 78 79]
def Qpq:IL:=[jb 83 1 7,jt 84 0 7 83,ja 85 13,jl 86 16 84 85,jb 87 6 86,yk 88 87,jb 89 6 11,jt 90 0 11 89,yf 91 88 90,ja 92 91,jf 93 6 11 92,yh 94 0 11 93 92,⟨some 95,.val (.bin .str .neq (.t 94) (.c (.str []))),(some (92,true))⟩,ji 96 92 95,jb 97 1 8,jt 98 0 8 97,ja 99 13,jl 100 8 98 99,jb 101 7 100,yk 102 101,jb 103 7 12,jt 104 0 12 103,zq 105 102 104,ja 106 105,jf 107 7 12 106,yh 108 0 12 107 106,zw 109 108 (-1) 106,ji 110 106 109,⟨some 111,.val (.bin .bool .neq (.t 96) (.t 110)),none⟩]
def Qpr:IL:=[je 10]
def Qps:IL:=[ja 81 13,jn 82 81 1,ja 13 82]
def Qpt:RC:=.seq (jQ Qpp (jX 80 0)) (.seq (.block 1 (jD Qpq (.cond (.t 111) (jQ Qpr (.ret)) (.skip)))) (.reg Qps))
def Qpu:IL:=[jj 113 3 6,jb 114 4 11,jb 115 1 114,jc 116 115,jx 117 31 113 116,ja 112 117,jz 118 112 0,jz 119 112 1,ze 14 14,jo 5 14 118,ja 15 119]
def Qk6:IL:=[jj 121 3 6,jb 122 4 11,jb 123 1 122,jc 124 123,jx 125 32 121 124,ja 120 125,jz 126 120 0,jz 127 120 1,zm 16 16,jo 5 16 126,ja 17 127]
def Qk7:IL:=[jb 128 5 12,jc 129 128]
def Qk8:IL:=[ju 131 129 10,ja 130 131]
def Qk9:IL:=[jb 132 6 12,jt 133 0 12 132,ja 134 15,zq 135 133 134,ja 136 135,jh 137 15 136,jf 138 0 5 136,yh 139 0 5 138 136,ya 140 1 139 136,zk 141 137 140 136,ji 142 136 141,ja 143 142,jf 144 0 5 143,yh 145 0 5 144 143,jh 146 15 143,yi 147 3 145 146 143,jf 148 0 147 143,yu 149 148 143,jf 150 4 11 143,jf 151 1 150 143,yh 152 0 11 151 143,UV 153 149 152 143,ji 154 143 153,ja 10 154]
def Qla:IL:=[ju 156 129 9,ja 155 156]
def Qlb:IL:=[jb 157 6 12,jt 158 0 12 157,ja 159 17,zq 160 158 159,ja 161 160,jh 162 17 161,jf 163 1 5 161,yh 164 0 5 163 161,ya 165 1 164 161,zk 166 162 165 161,ji 167 161 166,ja 168 167,jf 169 1 5 168,yh 170 0 5 169 168,jh 171 17 168,yi 172 5 170 171 168,jf 173 0 172 168,yu 174 173 168,jf 175 4 11 168,jf 176 1 175 168,yh 177 0 11 176 168,UV 178 174 177 168,ji 179 168 178,ja 10 179]
def Qlc:IL:=[jb 180 6 12,jc 181 180,ju 182 181 (-1),ja 10 182]
def JQ:RC:=jQ Qpk (jD Qpl (.seq (jQ Qpm (.cond (.t 77) (jQ Qpn (.ret)) (.skip))) (.seq (jQ Qpo (.block 0 (.loop Qpt))) (jQ Qpu (jQ Qk6 (.seq (jQ Qk7 (.block 2 (jQ Qk8 (.cond (.t 130) (jD Qk9 (.ret)) (jQ Qla (.cond (.t 155) (jD Qlb (.ret)) (.skip))))))) (jQ Qlc (.ret))))))))
end Go.Proofs.YtaiflhahcglpgaaGreatDoor.Rc

set_option linter.unusedSimpArgs false
set_option linter.unusedSectionVars false
namespace Go.Proofs.YtaiflhahcglpgaaGreatDoor.Va
open Go Am Rc Bt Br Up So

theorem z5 (S:SC):Qu Tryz.prog 5 [S.av] (.bool (decide ((S.msgs.length:Int)≤8)&&decide ((S.enums.length:Int)≤8)&&decide ((S.servs.length:Int)≤8))):=by
 refine k5.fn (by simp) ?_;simp only[SC.av,QAo,eE,seval];cases h1:decide ((S.msgs.length:Int)≤8)
 ·simp only[QAs,Qa,seval]
 cases h2:decide ((S.enums.length:Int)≤8)
 ·simp only[h2,QAo,QAC,QAs,eE,seval]
 simp only[h2,QAo,QAC,eE,seval]

theorem u42 (l:List SN)(hl:l.length≤1048576):Qu Tryz.prog 42 [.list (l.map fun n=>.agg n.cells),.list (l.map fun n=>.agg n.cells)] (.bool true):=by
 let I:Nat→St→Prop:=fun n st=>∃f fr k,st=⟨f,[fr],[]⟩∧n=l.length-k∧k≤l.length∧f 0=.list (l.map fun n=>.agg n.cells)∧f 1=.list (l.map fun n=>.agg n.cells)∧f 5=.int .i64 (k:Nat)
 have b0:((l.length:Int) != (l.length:Int))=false:=by simp
 refine k42.fn (by simp) ?_;simp only[QAo,b0,Qa,seval];refine Qe I _ ⟨_,_,0,rfl,rfl,Qzl _,(by rfl),(by rfl),(by rfl)⟩ ?_;rintro _ st ⟨f,fr,k,rfl,rfl,hk,h0,h1,h5⟩;simp only[QAo,h0,h5,Qa,seval];by_cases hlt:k<l.length
 ·obtain⟨x,hx⟩:∃x,l[k]? = some x:=⟨l[k],Qzf hlt⟩;have hg:(l.map fun n=>AV.agg n.cells)[k]? = some (.agg x.cells):=by rw[QAm,hx];rfl
  rw[Ka]at hg;have e1:=Qn k _ hlt (by simp only[maxLen];omega);have b1:(x.name==x.name)=true:=by simp
  have b2:(x.val.kd != x.val.kd)=false:=by simp
  have b3:(((x.val.bits:Nat):Int) != ((x.val.bits:Nat):Int))=false:=by simp
  have b4:(x.val.text==x.val.text)=true:=by simp
  simp only[QA hlt,Qk,QAq,Qc,hg,h0,h1,h5,b1,b2,b3,b4,e1,Qx,QAD,eE,seval];exact⟨l.length-(k+1),by omega,_,_,k+1,rfl,rfl,by omega,(by exact h0),(by exact h1),(by rfl)⟩
 ·simp only[QC hlt,Qa,seval]

theorem Qw4 (S:SC)(x:SF)(u:Int):Zw S x u=[.int .i64 x.num,.str x.name,.str (((Xe x.notes).map V.text).getD []),.int .i64 x.card,.int .i64 x.key,.int .i64 x.kind,.int .i64 (Wc S x),.int .i64 u]:=rfl
section
variable (S:SC)
theorem u19 (us:List (List UInt8))(l:List SF)(hl:l.length≤1048576):Qu Tryz.prog 19 [.list (l.map fun x=>.agg (Zw S x (X4 us x))),.list (l.map fun x=>.agg (Zw S x (X4 us x)))] (.bool true):=by
 let I:Nat→St→Prop:=fun n st=>∃f fr k,st=⟨f,[fr],[]⟩∧n=l.length-k∧k≤l.length∧f 0=.list (l.map fun x=>.agg (Zw S x (X4 us x)))∧f 1=.list (l.map fun x=>.agg (Zw S x (X4 us x)))∧f 5=.bool true∧f 6=.int .i64 (k:Nat)
 have b0:((l.length:Int)==(l.length:Int))=true:=by simp
 refine k19.fn (by simp) ?_;simp only[QAo,b0,Qa,seval];refine Qe I _ ⟨_,_,0,rfl,rfl,Qzl _,(by rfl),(by rfl),(by rfl),(by rfl)⟩ ?_;rintro _ st ⟨f,fr,k,rfl,rfl,hk,h0,h1,h5,h6⟩;simp only[QAo,h0,h5,h6,Qa,seval];by_cases hlt:k<l.length
 ·obtain⟨x,hx⟩:∃x,l[k]? = some x:=⟨l[k],Qzf hlt⟩;have hg:(l.map fun x=>AV.agg (Zw S x (X4 us x)))[k]? = some (.agg (Zw S x (X4 us x))):=by rw[QAm,hx];rfl
  have e1:=Qn k _ hlt (by simp only[maxLen];omega);have hq:Kh [.num,.str,.str,.num,.num,.num,.num,.num] (Zw S x (X4 us x)) (Zw S x (X4 us x))=some true:=by simp[Kh,Wf,Zw]
  rw[Qw4 S x]at hg hq;simp only[QA hlt,Qk,QAq,Qc,hg,hq,h0,h1,h6,e1,eE,seval];exact⟨l.length-(k+1),by omega,_,_,k+1,rfl,rfl,by omega,(by exact h0),(by exact h1),(by rfl),(by rfl)⟩
 ·simp only[QC hlt,h5,Qa,seval]
end

structure SamE (e:SE):Prop where
 len1:e.items.length≤1048576
 len2:e.free.length≤1048576
 notes:∀x∈e.items,x.notes.length≤1048576∧∃t,XT x.notes t=0
theorem U7 (e:SE):(XQ e).cells=[.str e.name,.bool e.opn,.list (e.items.map fun x=>.agg (ZA x).cells),.list (e.free.map fun n=>.agg n.cells),.list []]:=by
 unfold PE.cells XQ;simp only[QAA];rfl
theorem AG (l:List SN):(Wd l).length≤l.length:=List.length_filter_le _ _

section
variable (e:SE)(he:SamE e)
include he
theorem u20:Qu Tryz.prog 20 [.agg (XQ e).cells,.agg (XQ e).cells] (.bool true):=by
 obtain⟨l1,l2,hn⟩:=he;have b1:(e.name==e.name)=true:=by simp
 have b2:(e.opn==e.opn)=true:=by simp
 have b3:((e.items.length:Int)==(e.items.length:Int))=true:=by simp
 have b4:((e.free.length:Int)==(e.free.length:Int))=true:=by simp
 have h8:=u42 [] (by simp);simp only[Qz4]at h8;refine k20.fn (by simp) ?_;simp only[U7,QAo,b1,b2,b3,b4,Qx,eE,seval];refine aC h8 ?_;simp only[Qa,seval];generalize hfr:(Qw (Qw _ 2 _) 3 _:Nat→Ob)=F;have o2:F 2=.cells [.str e.name,.bool e.opn,.list (e.items.map fun x=>.agg (ZA x).cells),.list (e.free.map fun n=>.agg n.cells),.list []]:=by rw[←hfr];exact(by rfl)
 have o3:F 3=.cells [.str e.name,.bool e.opn,.list (e.items.map fun x=>.agg (ZA x).cells),.list (e.free.map fun n=>.agg n.cells),.list []]:=by rw[←hfr];exact(by rfl)
 clear hfr
 let I:Nat→St→Prop:=fun n st=>∃f k,st=⟨f,[F],[]⟩∧n=e.items.length-k∧k≤e.items.length∧f 2=.ptr 0 2 0∧f 3=.ptr 0 3 0∧f 5=.bool true∧f 6=.int .i64 (k:Nat)
 refine Qe I _ ⟨_,0,rfl,rfl,Qzl _,(by rfl),(by rfl),(by rfl),(by rfl)⟩ ?_;rintro _ st ⟨f,k,rfl,rfl,hk,h2,h3,h5,h6⟩;simp only[QAo,h2,h5,h6,o2,eE,seval];by_cases hlt:k<e.items.length
 ·obtain⟨x,hx⟩:∃x,e.items[k]? = some x:=⟨e.items[k],Qzf hlt⟩;obtain⟨q1,t,q2⟩:=hn x (Qzq hx);have hg:(e.items.map fun x=>AV.agg (ZA x).cells)[k]? = some (.agg (ZA x).cells):=by rw[QAm,hx];rfl
  rw[Dl q2]at hg;have hc:=u42 (Wd x.notes) (Qzd (AG _) q1);have e1:=Qn k _ hlt (by simp only[maxLen];omega);have c1:(x.name==x.name)=true:=by simp
  have c2:(x.num==x.num)=true:=by simp
  simp only[QA hlt,Qk,QAq,Qc,hg,h2,h3,h6,o2,o3,c1,c2,Qx,eE,seval];refine aC hc ?_;simp only[h6,e1,Qa,seval];exact⟨e.items.length-(k+1),by omega,_,k+1,rfl,rfl,by omega,(by exact h2),(by exact h3),(by rfl),(by rfl)⟩
 simp only[QC hlt,Qa,seval];clear hlt
 let J:Nat→St→Prop:=fun n st=>∃f k,st=⟨f,[F],[]⟩∧n=e.free.length-k∧k≤e.free.length∧f 2=.ptr 0 2 0∧f 3=.ptr 0 3 0∧f 5=.bool true∧f 7=.int .i64 (k:Nat)
 refine Qe J _ ⟨_,0,rfl,rfl,Qzl _,(by exact h2),(by exact h3),(by exact h5),(by rfl)⟩ ?_;clear h2 h3 h5 h6;rintro _ st ⟨f,k,rfl,rfl,hk,h2,h3,h5,h7⟩;simp only[QAo,h2,h5,h7,o2,eE,seval];by_cases hlt:k<e.free.length
 ·obtain⟨x,hx⟩:∃x,e.free[k]? = some x:=⟨e.free[k],Qzf hlt⟩;have hg:(e.free.map fun n=>AV.agg n.cells)[k]? = some (.agg x.cells):=by rw[QAm,hx];rfl
  have e1:=Qn k _ hlt (by simp only[maxLen];omega);have hq:Kh [.num,.num] x.cells x.cells=some true:=by simp[Kh,Wf,PS.cells]
  rw[show x.cells=_ from PS.cells.eq_1 x]at hg hq;simp only[QA hlt,Qk,QAq,Qc,hg,hq,h2,h3,h7,o2,o3,e1,eE,seval];exact⟨e.free.length-(k+1),by omega,_,k+1,rfl,rfl,by omega,(by exact h2),(by exact h3),(by rfl),(by rfl)⟩
 ·simp only[QC hlt,h5,Qa,seval]
end

theorem CE (S:SC)(m:SM):(XX S m).cells=[.str m.name,.list (m.fields.map fun x=>.agg (Zw S x (X4 (unl [] m.fields) x))),.int .i64 ((unl [] m.fields).length:Nat)]:=by
 unfold PG.cells XX;simp only[QAA];rfl

section
variable (S:SC)(ms:List SM)(es:List SE)(l1:ms.length≤1048576)(l2:es.length≤1048576)(hm:∀m∈ms,m.fields.length≤1048576)(he:∀e∈es,SamE e)
include l1 l2 hm he
theorem u8:Qu Tryz.prog 8 [.agg [.list (ms.map fun m=>.agg (XX S m).cells),.list (es.map fun e=>.agg (XQ e).cells)],.agg [.list (ms.map fun m=>.agg (XX S m).cells),.list (es.map fun e=>.agg (XQ e).cells)]] (.bool true):=by
 have b1:((ms.length:Int)==(ms.length:Int))=true:=by simp
 have b2:((es.length:Int)==(es.length:Int))=true:=by simp
 refine k8.fn (by simp) ?_;simp only[QAo,b1,b2,eE,seval];generalize hfr:(Qw (Qw _ 2 _) 3 _:Nat→Ob)=F;have o2:F 2=.cells [.list (ms.map fun m=>.agg (XX S m).cells),.list (es.map fun e=>.agg (XQ e).cells)]:=by rw[←hfr];exact(by rfl)
 have o3:F 3=.cells [.list (ms.map fun m=>.agg (XX S m).cells),.list (es.map fun e=>.agg (XQ e).cells)]:=by rw[←hfr];exact(by rfl)
 clear hfr
 let I:Nat→St→Prop:=fun n st=>∃f k,st=⟨f,[F],[]⟩∧n=ms.length-k∧k≤ms.length∧f 2=.ptr 0 2 0∧f 3=.ptr 0 3 0∧f 5=.bool true∧f 6=.int .i64 (k:Nat)
 refine Qe I _ ⟨_,0,rfl,rfl,Qzl _,(by rfl),(by rfl),(by rfl),(by rfl)⟩ ?_;rintro _ st ⟨f,k,rfl,rfl,hk,h2,h3,h5,h6⟩;simp only[QAo,h2,h5,h6,o2,eE,seval];by_cases hlt:k<ms.length
 ·obtain⟨m,hx⟩:∃x,ms[k]? = some x:=⟨ms[k],Qzf hlt⟩;have hg:(ms.map fun m=>AV.agg (XX S m).cells)[k]? = some (.agg (XX S m).cells):=by rw[QAm,hx];rfl
  rw[CE]at hg;have hc:=u19 S (unl [] m.fields) m.fields (hm m (Qzq hx));have e1:=Qn k _ hlt (by simp only[maxLen];omega);have c1:(m.name==m.name)=true:=by simp
  have c2:(((unl [] m.fields).length:Int)==((unl [] m.fields).length:Int))=true:=by simp
  simp only[QA hlt,Qk,QAq,Qc,hg,h2,h3,h6,o2,o3,c1,c2,Qx,eE,seval];refine aC hc ?_;simp only[h6,e1,Qa,seval];exact⟨ms.length-(k+1),by omega,_,k+1,rfl,rfl,by omega,(by exact h2),(by exact h3),(by rfl),(by rfl)⟩
 simp only[QC hlt,Qa,seval];clear hlt
 let J:Nat→St→Prop:=fun n st=>∃f k,st=⟨f,[F],[]⟩∧n=es.length-k∧k≤es.length∧f 2=.ptr 0 2 0∧f 3=.ptr 0 3 0∧f 5=.bool true∧f 7=.int .i64 (k:Nat)
 refine Qe J _ ⟨_,0,rfl,rfl,Qzl _,(by exact h2),(by exact h3),(by exact h5),(by rfl)⟩ ?_;clear h2 h3 h5 h6;rintro _ st ⟨f,k,rfl,rfl,hk,h2,h3,h5,h7⟩;simp only[QAo,h2,h5,h7,o2,eE,seval];by_cases hlt:k<es.length
 ·obtain⟨e,hx⟩:∃x,es[k]? = some x:=⟨es[k],Qzf hlt⟩;have hg:(es.map fun e=>AV.agg (XQ e).cells)[k]? = some (.agg (XQ e).cells):=by rw[QAm,hx];rfl
  have hc:=u20 e (he e (Qzq hx));rw[U7]at hg hc;have e1:=Qn k _ hlt (by simp only[maxLen];omega);simp only[QA hlt,Qk,QAq,Qc,hg,h2,h3,h7,o2,o3,eE,seval];refine aC hc ?_;simp only[h7,e1,Qa,seval];exact⟨es.length-(k+1),by omega,_,k+1,rfl,rfl,by omega,(by exact h2),(by exact h3),(by rfl),(by rfl)⟩
 ·simp only[QC hlt,h5,Qa,seval]
end

section
variable {M:Nat}(hM:M≤1048576)(S:SC)(hS:S.ok M)
include hM hS in
theorem c3:Qu Tryz.prog 3 [S.av] (.bool true):=by
 obtain⟨l1,l2,_⟩:=Zd S hS hM;refine k3.fn (by simp) ?_;simp only[r3,o3,Qk0,Qk1,SC.av,eE,seval];refine aC (z5 S) ?_;cases h8:decide ((S.msgs.length:Int)≤8)&&decide ((S.enums.length:Int)≤8)&&decide ((S.servs.length:Int)≤8)
 ·simp only[Qk2,QAb,Qa,seval]
 simp only[Qzz,QAl]at h8;have h8':S.msgs.length≤8∧S.enums.length≤8∧S.servs.length≤8:=by omega
 have hp:=s6 hM S hS h8';have hr:=u7 hM S hS h8';obtain⟨ms,es,b,q1,q2,q3,q4,eR⟩:∃(ms:List SM) (es:List SE) (b:Int),ms.length≤1048576∧es.length≤1048576∧(∀m∈ms,m.fields.length≤1048576)∧(∀e∈es,SamE e)∧Dk S=.tup [.agg [.list (ms.map fun m=>.agg (XX S m).cells),.list (es.map fun e=>.agg (XQ e).cells)],.int .i64 b]:=by
  cases hv:ZF S
  ·exact⟨[],[],1,by simp,by simp,by simp,by simp,by rw[Dk,Qzj (by rw[hv];simp)];rfl⟩
  ·refine⟨S.msgs,S.enums,0,by omega,by omega,fun m hm=>?_,fun e he=>?_,?_⟩
   ·have:=(hS.msgs m hm).len1;omega
   ·have heo:=hS.enums e he;have hek:=Cj ((Ci hv).es e he);have q1:=heo.len1;have q2:=heo.len2;refine⟨by omega,by omega,fun x hx=>?_⟩;have:=(heo.items x hx).len;obtain⟨i,hi⟩:=Qzo.1 hx;exact⟨by omega,4,(Ck hek hi).notes⟩
   ·rw[Dk,Qzk hv];unfold PL.av Fj;simp only[QAA];rfl
 rw[eR]at hp hr;simp only[SC.av]at hp hr;have hs:=u8 S ms es q1 q2 q3 q4;have b0:(b==b)=true:=by simp
 simp only[Qk3,QAD,eE,seval];refine aC hp ?_;simp only[Qk4,eE,seval];refine aC hr ?_;simp only[Qk5,b0,eE,seval];refine aC hs ?_;simp only[Qa,seval];refine aC Ev.Mp ?_;simp only[Qa,seval]
end

end Go.Proofs.YtaiflhahcglpgaaGreatDoor.Va

namespace Go.Proofs.YtaiflhahcglpgaaGreatDoor.Br
open Go Am

theorem KN (l:List SN):(l.map SN.cells).map Xw=l.map fun n=>.agg n.cells:=by
 rw[QAA];exact QAz fun x _=>KC (by rw[SN.cells,Qzr,V.cells_length];omega)
theorem Qld (l:List SF):(l.map SF.cells).map Xw=l.map fun n=>.agg n.cells:=by
 rw[QAA];exact QAz fun x _=>KC (by simp only[SF.cells,QzM,Qzr,QAe,V.cells_length];omega)

theorem KO {M:Nat}(hM:M=reachBytes∨M≤1048576){k:Nat}{cs:List AV}(h:QY Tryz.prog M k 91 cs):∃x:SN,x.ok M∧cs=x.cells:=by
 obtain⟨k,h⟩:=Xx Tryz.underlying91 h;simp only[QY.HasL]at h;obtain⟨_,_,rfl,h0,a1,_,rfl,h1,rfl⟩:=h;obtain⟨a0,rfl,w0⟩:=XO Tryz.underlying9 h0;obtain⟨v,hv,rfl⟩:=MT hM h1;exact⟨⟨a0,v⟩,⟨w0,hv⟩,by simp[SN.cells]⟩

theorem MI {M k:Nat}{cs:List AV}(h:QY Tryz.prog M k 62 cs):∃(a:Int) (s:List UInt8),(Lit.int .i64 a).wf=true∧s.length≤M∧cs=[.int .i64 a,.str s]:=by
 obtain⟨k,h⟩:=Xx Tryz.underlying62 h;simp only[QY.HasL]at h;obtain⟨_,_,rfl,h0,_,_,rfl,h1,rfl⟩:=h;obtain⟨a0,rfl,w0⟩:=XN Tryz.underlying3 h0;obtain⟨a1,rfl,w1⟩:=XO Tryz.underlying9 h1;exact⟨a0,a1,w0,w1,rfl⟩

theorem CF {M:Nat}(hM:M=reachBytes∨M≤1048576){k:Nat}{cs:List AV}(h:QY Tryz.prog M k 71 cs):∃x:SF,x.ok M∧cs=x.cells:=by
 obtain⟨k,h⟩:=Xx Tryz.underlying71 h;simp only[QY.HasL]at h;obtain⟨_,_,rfl,h0,_,_,rfl,h1,_,_,rfl,h2,_,_,rfl,h3,_,_,rfl,h4,_,_,rfl,h5,_,_,rfl,h6,_,_,rfl,h7,_,_,rfl,h8,rfl⟩:=h;obtain⟨a0,rfl,w0⟩:=XN Tryz.underlying3 h0;obtain⟨a1,rfl,w1⟩:=XO Tryz.underlying9 h1;obtain⟨a2,rfl,w2⟩:=XN Tryz.underlying3 h2;obtain⟨a3,rfl,w3⟩:=XN Tryz.underlying3 h3;obtain⟨a4,s4,w4,u4,rfl⟩:=MI h4;obtain⟨a5,rfl,w5⟩:=XO Tryz.underlying9 h5;obtain⟨a6,rfl⟩:=HU Tryz.underlying4 h6;obtain⟨v7,w7,rfl⟩:=MT hM h7;obtain⟨k8,l8,rfl,w8,hl8⟩:=Q3 Tryz.underlying40 h8;obtain⟨x8,rfl,o8⟩:=Q9 (f:=SN.cells) (ok:=SN.ok M) fun c hc=>KO hM (hl8 c hc)
 refine⟨⟨a0,a1,a2,a3,a4,s4,a5,a6,v7,x8⟩,⟨w0,w1,w2,w3,w4,u4,w5,w7,by simpa using w8,o8⟩,?_⟩;simp only[SF.cells,KN]
 try simp only[Qzx,Qzy]
 try rfl

theorem MJ {M:Nat}(hM:M=reachBytes∨M≤1048576){k:Nat}{cs:List AV}(h:QY Tryz.prog M k 42 cs):∃x:SM,x.ok M∧cs=x.cells:=by
 obtain⟨k,h⟩:=Xx Tryz.underlying42 h;simp only[QY.HasL]at h;obtain⟨_,_,rfl,h0,_,_,rfl,h1,_,_,rfl,h2,_,_,rfl,h3,_,_,rfl,h4,rfl⟩:=h;obtain⟨a0,rfl,w0⟩:=XO Tryz.underlying9 h0;obtain⟨k1,l1,rfl,w1,hl1⟩:=Q3 Tryz.underlying37 h1;obtain⟨k2,l2,rfl,w2,hl2⟩:=Q3 Tryz.underlying38 h2;obtain⟨k3,l3,rfl,w3,hl3⟩:=Q3 Tryz.underlying39 h3;obtain⟨k4,l4,rfl,w4,hl4⟩:=Q3 Tryz.underlying40 h4;obtain⟨x1,rfl,o1⟩:=Q9 (f:=SF.cells) (ok:=SF.ok M) fun c hc=>CF hM (hl1 c hc)
 obtain⟨x2,rfl,o2⟩:=Q9 (f:=PS.cells) (ok:=PS.ok) fun c hc=>HV (hl2 c hc)
 obtain⟨x3,rfl,o3⟩:=Q9 (f:=fun s:List UInt8=>[AV.str s]) (ok:=fun s=>s.length≤M) fun c hc=>(XO Tryz.underlying9 (hl3 c hc)).elim fun s h=>⟨s,h.2,h.1⟩
 obtain⟨x4,rfl,o4⟩:=Q9 (f:=SN.cells) (ok:=SN.ok M) fun c hc=>KO hM (hl4 c hc)
 refine⟨⟨a0,x1,x2,x3,x4⟩,⟨w0,by simpa using w1,o1,by simpa using w2,o2,by simpa using w3,o3,by simpa using w4,o4⟩,?_⟩;simp only[SM.cells,KN,Qld]
 try simp only[QAA,Qzx,Qzy]
 try rfl

theorem CG {M:Nat}(hM:M=reachBytes∨M≤1048576){k:Nat}{cs:List AV}(h:QY Tryz.prog M k 57 cs):∃x:SI,x.ok M∧cs=x.cells:=by
 obtain⟨k,h⟩:=Xx Tryz.underlying57 h;simp only[QY.HasL]at h;obtain⟨_,_,rfl,h0,_,_,rfl,h1,_,_,rfl,h2,rfl⟩:=h;obtain⟨a0,rfl,w0⟩:=XO Tryz.underlying9 h0;obtain⟨a1,rfl,w1⟩:=XN Tryz.underlying3 h1;obtain⟨k2,l2,rfl,w2,hl2⟩:=Q3 Tryz.underlying40 h2;obtain⟨x2,rfl,o2⟩:=Q9 (f:=SN.cells) (ok:=SN.ok M) fun c hc=>KO hM (hl2 c hc)
 refine⟨⟨a0,a1,x2⟩,⟨w0,w1,by simpa using w2,o2⟩,?_⟩;simp only[SI.cells,KN]
 try simp only[Qzx,Qzy]
 try rfl

theorem CH {M:Nat}(hM:M=reachBytes∨M≤1048576){k:Nat}{cs:List AV}(h:QY Tryz.prog M k 50 cs):∃x:SE,x.ok M∧cs=x.cells:=by
 obtain⟨k,h⟩:=Xx Tryz.underlying50 h;simp only[QY.HasL]at h;obtain⟨_,_,rfl,h0,_,_,rfl,h1,_,_,rfl,h2,_,_,rfl,h3,_,_,rfl,h4,rfl⟩:=h;obtain⟨a0,rfl,w0⟩:=XO Tryz.underlying9 h0;obtain⟨a1,rfl⟩:=HU Tryz.underlying4 h1;obtain⟨k2,l2,rfl,w2,hl2⟩:=Q3 Tryz.underlying48 h2;obtain⟨k3,l3,rfl,w3,hl3⟩:=Q3 Tryz.underlying38 h3;obtain⟨k4,l4,rfl,w4,hl4⟩:=Q3 Tryz.underlying40 h4;obtain⟨x2,rfl,o2⟩:=Q9 (f:=SI.cells) (ok:=SI.ok M) fun c hc=>CG hM (hl2 c hc)
 obtain⟨x3,rfl,o3⟩:=Q9 (f:=PS.cells) (ok:=PS.ok) fun c hc=>HV (hl3 c hc)
 obtain⟨x4,rfl,o4⟩:=Q9 (f:=SN.cells) (ok:=SN.ok M) fun c hc=>KO hM (hl4 c hc)
 refine⟨⟨a0,a1,x2,x3,x4⟩,⟨w0,by simpa using w2,o2,by simpa using w3,o3,by simpa using w4,o4⟩,?_⟩;simp only[SE.cells,KN]
 try simp only[QAA,Qzx,Qzy]
 try rfl

theorem MK {M:Nat}(hM:M=reachBytes∨M≤1048576){k:Nat}{cs:List AV}(h:QY Tryz.prog M k 169 cs):∃x:SO,x.ok M∧cs=x.cells:=by
 obtain⟨k,h⟩:=Xx Tryz.underlying169 h;simp only[QY.HasL]at h;obtain⟨_,_,rfl,h0,_,_,rfl,h1,_,_,rfl,h2,_,_,rfl,h3,_,_,rfl,h4,rfl⟩:=h;obtain⟨a0,rfl,w0⟩:=XO Tryz.underlying9 h0;obtain⟨a1,rfl,w1⟩:=XO Tryz.underlying9 h1;obtain⟨a2,rfl,w2⟩:=XO Tryz.underlying9 h2;obtain⟨a3,rfl,w3⟩:=XN Tryz.underlying3 h3;obtain⟨k4,l4,rfl,w4,hl4⟩:=Q3 Tryz.underlying40 h4;obtain⟨x4,rfl,o4⟩:=Q9 (f:=SN.cells) (ok:=SN.ok M) fun c hc=>KO hM (hl4 c hc)
 refine⟨⟨a0,a1,a2,a3,x4⟩,⟨w0,w1,w2,w3,by simpa using w4,o4⟩,?_⟩;simp only[SO.cells,KN]
 try simp only[Qzx,Qzy]
 try rfl

theorem ML {M:Nat}(hM:M=reachBytes∨M≤1048576){k:Nat}{cs:List AV}(h:QY Tryz.prog M k 111 cs):∃x:SQ,x.ok M∧cs=x.cells:=by
 obtain⟨k,h⟩:=Xx Tryz.underlying111 h;simp only[QY.HasL]at h;obtain⟨_,_,rfl,h0,_,_,rfl,h1,_,_,rfl,h2,rfl⟩:=h;obtain⟨a0,rfl,w0⟩:=XO Tryz.underlying9 h0;obtain⟨k1,l1,rfl,w1,hl1⟩:=Q3 Tryz.underlying109 h1;obtain⟨k2,l2,rfl,w2,hl2⟩:=Q3 Tryz.underlying40 h2;obtain⟨x1,rfl,o1⟩:=Q9 (f:=SO.cells) (ok:=SO.ok M) fun c hc=>MK hM (hl1 c hc)
 obtain⟨x2,rfl,o2⟩:=Q9 (f:=SN.cells) (ok:=SN.ok M) fun c hc=>KO hM (hl2 c hc)
 refine⟨⟨a0,x1,x2⟩,⟨w0,by simpa using w1,o1,by simpa using w2,o2⟩,?_⟩;simp only[SQ.cells,KN]
 try simp only[QAA,Qzx,Qzy]
 try rfl

theorem BF {M:Nat}(hM:M=reachBytes∨M≤1048576){k:Nat}{cs:List AV}(h:QY Tryz.prog M k 26 cs):∃x:SC,x.ok M∧.agg cs=x.av:=by
 obtain⟨k,h⟩:=Xx Tryz.underlying26 h;simp only[QY.HasL]at h;obtain⟨_,_,rfl,h0,_,_,rfl,h1,_,_,rfl,h2,rfl⟩:=h;obtain⟨k2,l2,rfl,w2,hl2⟩:=Q3 Tryz.underlying22 h0;obtain⟨k3,l3,rfl,w3,hl3⟩:=Q3 Tryz.underlying23 h1;obtain⟨k4,l4,rfl,w4,hl4⟩:=Q3 Tryz.underlying24 h2;obtain⟨x2,rfl,o2⟩:=Q9 (f:=SM.cells) (ok:=SM.ok M) fun c hc=>MJ hM (hl2 c hc)
 obtain⟨x3,rfl,o3⟩:=Q9 (f:=SE.cells) (ok:=SE.ok M) fun c hc=>CH hM (hl3 c hc)
 obtain⟨x4,rfl,o4⟩:=Q9 (f:=SQ.cells) (ok:=SQ.ok M) fun c hc=>ML hM (hl4 c hc)
 refine⟨⟨x2,x3,x4⟩,⟨by simpa using w2,o2,by simpa using w3,o3,by simpa using w4,o4⟩,?_⟩;simp only[SC.av,QAA,Qzx,Qzy];rfl

end Go.Proofs.YtaiflhahcglpgaaGreatDoor.Br
