/- The texts May in one file. -/
import Derived.Test.YtckaneapjpiocaaGreatDoorQ4
set_option linter.unusedVariables false
set_option linter.unusedSimpArgs false
set_option maxHeartbeats 1000000
namespace Go.Proofs.YtckaneapjpiocaaGreatDoor
open Go.RowKit
structure Rec.wf (x:Rec):Prop where
 frm: -9223372036854775808≤x.frm∧x.frm≤9223372036854775807
 guid: -9223372036854775808≤x.guid∧x.guid≤9223372036854775807
 index: -9223372036854775808≤x.index∧x.index≤9223372036854775807
 count: -9223372036854775808≤x.count∧x.count≤9223372036854775807
 kind: -9223372036854775808≤x.kind∧x.kind≤9223372036854775807
 name:x.name.size≤9223372036854775807
 data:x.data.size≤9223372036854775807
 own:x.on=x.own.length
 on:x.on≤9223372036854775807
 props: ∀p∈x.own,p.name.size≤9223372036854775807∧p.value.size≤9223372036854775807
def xL(x:Rec):Bool:=x.s0 == 0 && x.s1 == 0 && x.s2 == 0 && x.s3 == 0
def yv(x:Rec):Bool:=
 if x.kind=1 then zd x.name && decide (0≤x.frm) && decide (x.frm≤1099511627776) && decide (1≤x.guid) && decide (x.guid≤1099511627776) && decide (prE x.own=0) && x.index == 0 && x.count == 0 && x.data.toList == [] && xL x
 else if x.kind=2 then decide (0≤x.index) && decide (x.index < 1024) && decide (x.data.size=16) && x.name.toList == [] && x.frm == 0 && x.guid == 0 && x.count == 0 && xL x && decide (x.on=0)
 else if x.kind=3 then decide (0≤x.index) && decide (x.index < 1024) && decide (1≤x.count) && decide (x.count≤1024 - x.index) && x.name.toList == [] && x.frm == 0 && x.guid == 0 && x.data.toList == [] && xL x && decide (x.on=0)
 else x.name.toList == [] && x.frm == 0 && x.guid == 0 && x.index == 0 && x.count == 0 && x.data.toList == [] && decide (x.on=0)
theorem amF(w:World)(x:Rec)(hr:Rd w 0 w.heap.size x.oA (prps x.own))(hx:x.wf)(hk:x.kind=1):
 Calls Tryz.prog 191 #[.agg x.cells.toArray] w fun e w'=>e= .returned (.bool (yv x))∧Ext w w':=by
 have HS:=hiD (show yv x=(zd x.name && decide (0≤x.frm) && decide (x.frm≤1099511627776) && decide (1≤x.guid) && decide (x.guid≤1099511627776) && decide (prE x.own=0) && x.index == 0 && x.count == 0 && x.data.toList == [] && xL x)by rw [yv,if_pos hk])
 obtain⟨k,n,f,g,oA,on,oc,own,i,c,d,s0,s1,s2,s3⟩:=x
 obtain⟨⟨h1,h2⟩,⟨h3,h4⟩,⟨h5,h6⟩,⟨h7,h8⟩,⟨h9,h10⟩,h11,h12,h13,h14,h15⟩:=hx
 simp only at hk h1 h2 h3 h4 h5 h6 h7 h8 h9 h10 h11 h12 h13 h14 h15 hr
 subst hk
 have H13:=hiD h13
 have H15:=hiD h15
 clear h13 h15
 generalize yv _=b at HS
 have hcase:zd n=false∨(zd n=true∧f < 0)∨(zd n=true∧0≤f∧1099511627776 < f)∨(zd n=true∧0≤f∧f≤1099511627776∧g < 1)∨(zd n=true∧0≤f∧f≤1099511627776∧1≤g∧1099511627776 < g)∨
  (zd n=true∧0≤f∧f≤1099511627776∧1≤g∧g≤1099511627776∧(prE own != 0)=true)∨(zd n=true∧0≤f∧f≤1099511627776∧1≤g∧g≤1099511627776∧(prE own != 0)=false):=by
  cases zd n <;> cases (prE own != 0) <;> simp <;> omega
 simp only [Rec.cells]
 rcases hcase with a0 | ⟨a0,a1⟩ | ⟨a0,a1,a2⟩ | ⟨a0,a1,a2,a3⟩ | ⟨a0,a1,a2,a3,a4⟩ | ⟨a0,a1,a2,a3,a4,a5⟩ | ⟨a0,a1,a2,a3,a4,a5⟩
 all_goals
  go_enter Tryz.func191,Tryz.ntmps191
  go_wp2_with fail
  go_region
  go_wp2_with (first
   | (go_at_call 44;(with_reducible refine(qq n _ h11).mono ?_);rintro e w1 ⟨rfl,e1⟩;obtain⟨q1,q2⟩:=anc e1;have z1:w.heap.size+1 < w1.heap.size:=(by have:=e1.size;simp at this;omega))
   | (go_at_call 117;refine(aaH _ oA on oc own H13.out h14 (Rd.at hr (show Ext w _ from blo) (Nat.le_refl _)) H15.out).mono ?_;rintro e w2 ⟨rfl,e2⟩;obtain⟨q3,q4⟩:=anc e2;have z2:w.heap.size+1 < w2.heap.size:=(by have:=e2.size;omega);have c0:w2.cell? ⟨w.heap.size,0,none⟩=some (.int .i64 1):=(by rw [q3 _ _ (by omega),q1 _ _ (by first | (simp;done) | (simp;omega))];go_simp);have c1:w2.cell? ⟨w.heap.size,1,none⟩=some (.string n):=(by rw [q3 _ _ (by omega),q1 _ _ (by first | (simp;done) | (simp;omega))];go_simp);have c2:w2.cell? ⟨w.heap.size,2,none⟩=some (.int .i64 f):=(by rw [q3 _ _ (by omega),q1 _ _ (by first | (simp;done) | (simp;omega))];go_simp);have c3:w2.cell? ⟨w.heap.size,3,none⟩=some (.int .i64 g):=(by rw [q3 _ _ (by omega),q1 _ _ (by first | (simp;done) | (simp;omega))];go_simp);have c4:w2.cell? ⟨w.heap.size,4,none⟩=some (.slice oA on oc):=(by rw [q3 _ _ (by omega),q1 _ _ (by first | (simp;done) | (simp;omega))];go_simp);have c5:w2.cell? ⟨w.heap.size,5,none⟩=some (.int .i64 i):=(by rw [q3 _ _ (by omega),q1 _ _ (by first | (simp;done) | (simp;omega))];go_simp);have c6:w2.cell? ⟨w.heap.size,6,none⟩=some (.int .i64 c):=(by rw [q3 _ _ (by omega),q1 _ _ (by first | (simp;done) | (simp;omega))];go_simp);have c7:w2.cell? ⟨w.heap.size,7,none⟩=some (.string d):=(by rw [q3 _ _ (by omega),q1 _ _ (by first | (simp;done) | (simp;omega))];go_simp);have c8:w2.cell? ⟨w.heap.size,8,none⟩=some (.int .u64 s0):=(by rw [q3 _ _ (by omega),q1 _ _ (by first | (simp;done) | (simp;omega))];go_simp);have c9:w2.cell? ⟨w.heap.size,9,none⟩=some (.int .u64 s1):=(by rw [q3 _ _ (by omega),q1 _ _ (by first | (simp;done) | (simp;omega))];go_simp);have c10:w2.cell? ⟨w.heap.size,10,none⟩=some (.int .u64 s2):=(by rw [q3 _ _ (by omega),q1 _ _ (by first | (simp;done) | (simp;omega))];go_simp);have c11:w2.cell? ⟨w.heap.size,11,none⟩=some (.int .u64 s3):=(by rw [q3 _ _ (by omega),q1 _ _ (by first | (simp;done) | (simp;omega))];go_simp);have b0:w2.cell? ⟨w.heap.size+1,0,none⟩=some (.int .i64 1):=(by rw [q3 _ _ (by omega),q1 _ _ (by first | (simp;done) | (simp;omega))];go_simp);have b1:w2.cell? ⟨w.heap.size+1,1,none⟩=some (.string n):=(by rw [q3 _ _ (by omega),q1 _ _ (by first | (simp;done) | (simp;omega))];go_simp);have b2:w2.cell? ⟨w.heap.size+1,2,none⟩=some (.int .i64 f):=(by rw [q3 _ _ (by omega),q1 _ _ (by first | (simp;done) | (simp;omega))];go_simp);have b3:w2.cell? ⟨w.heap.size+1,3,none⟩=some (.int .i64 g):=(by rw [q3 _ _ (by omega),q1 _ _ (by first | (simp;done) | (simp;omega))];go_simp);have b4:w2.cell? ⟨w.heap.size+1,4,none⟩=some (.slice none 0 0):=(by rw [q3 _ _ (by omega),q1 _ _ (by first | (simp;done) | (simp;omega))];go_simp);have b5:w2.cell? ⟨w.heap.size+1,5,none⟩=some (.int .i64 0):=(by rw [q3 _ _ (by omega),q1 _ _ (by first | (simp;done) | (simp;omega))];go_simp);have b6:w2.cell? ⟨w.heap.size+1,6,none⟩=some (.int .i64 0):=(by rw [q3 _ _ (by omega),q1 _ _ (by first | (simp;done) | (simp;omega))];go_simp);have b7:w2.cell? ⟨w.heap.size+1,7,none⟩=some (.string ⟨#[]⟩):=(by rw [q3 _ _ (by omega),q1 _ _ (by first | (simp;done) | (simp;omega))];go_simp);have b8:w2.cell? ⟨w.heap.size+1,8,none⟩=some (.int .u64 0):=(by rw [q3 _ _ (by omega),q1 _ _ (by first | (simp;done) | (simp;omega))];go_simp);have b9:w2.cell? ⟨w.heap.size+1,9,none⟩=some (.int .u64 0):=(by rw [q3 _ _ (by omega),q1 _ _ (by first | (simp;done) | (simp;omega))];go_simp);have b10:w2.cell? ⟨w.heap.size+1,10,none⟩=some (.int .u64 0):=(by rw [q3 _ _ (by omega),q1 _ _ (by first | (simp;done) | (simp;omega))];go_simp);have b11:w2.cell? ⟨w.heap.size+1,11,none⟩=some (.int .u64 0):=(by rw [q3 _ _ (by omega),q1 _ _ (by first | (simp;done) | (simp;omega))];go_simp);have cf:w2.frozen? ⟨w.heap.size,4,none⟩=false:=(by rw [q4 _ _ (by omega),q2 _ _ (by first | (simp;done) | (simp;omega))];go_simp);clear q1 q2 q3 q4)
   | (go_at_call 220;refine(abA _ ⟨1,n,f,g,none,0,0, [],i,c,d,s0,s1,s2,s3⟩ ⟨1,n,f,g,none,0,0, [],0,0,⟨#[]⟩,0,0,0,0⟩ (by simp) rfl rfl rfl).mono ?_;rintro e w3 ⟨rfl,e3⟩))
  all_goals (go_ret;refine⟨aaP ?_,blo⟩;rw [HS.out];(first | (simp [*,aap,xL];done) | (simp [*,aap,xL];omega) | (simp at a5;simp [*,aap,xL];done) | trace_state))
theorem aml(w:World)(x:Rec)(hx:x.wf)(hk:x.kind=2):
 Calls Tryz.prog 191 #[.agg x.cells.toArray] w fun e w'=>e= .returned (.bool (yv x))∧Ext w w':=by
 have HS:=hiD (show yv x=(decide (0≤x.index) && decide (x.index < 1024) && decide (x.data.size=16) && x.name.toList == [] && x.frm == 0 && x.guid == 0 && x.count == 0 && xL x && decide (x.on=0))by rw [yv,if_neg (by omega)];rw [if_pos hk])
 obtain⟨k,n,f,g,oA,on,oc,own,i,c,d,s0,s1,s2,s3⟩:=x
 obtain⟨⟨h1,h2⟩,⟨h3,h4⟩,⟨h5,h6⟩,⟨h7,h8⟩,⟨h9,h10⟩,h11,h12,h13,h14,h15⟩:=hx
 simp only at hk h1 h2 h3 h4 h5 h6 h7 h8 h9 h10 h11 h12 h13 h14 h15
 subst hk
 clear h13 h15
 generalize yv _=b at HS
 have hcase:i < 0∨(0≤i∧1024≤i)∨(0≤i∧i < 1024∧((d.size:Int) != 16)=true)∨(0≤i∧i < 1024∧((d.size:Int) != 16)=false):=by cases ((d.size:Int) != 16) <;> simp <;> omega
 simp only [Rec.cells]
 rcases hcase with a0 | ⟨a0,a1⟩ | ⟨a0,a1,a2⟩ | ⟨a0,a1,a2⟩
 all_goals
  go_enter Tryz.func191,Tryz.ntmps191
  go_wp2_with fail
  try go_region
  go_wp2_with (go_at_call 220;refine(abA _ ⟨2,n,f,g,oA,on,oc,own,i,c,d,s0,s1,s2,s3⟩ ⟨2,⟨#[]⟩,0,0,none,0,0, [],i,0,d,0,0,0,0⟩ h14 rfl rfl rfl).mono ?_;rintro e w3 ⟨rfl,e3⟩)
  all_goals (go_ret;refine⟨aaP ?_,blo⟩;rw [HS.out];(first | (simp [*,aap,xL];done) | (simp [*,aap,xL];omega) | (simp at a2;simp [*,aap,xL];(first | done | omega)) | (simp at a2;have a3:d.size=16:=(by omega);simp [*,aap,xL];(first | done | omega)) | trace_state))
theorem amb(w:World)(x:Rec)(hx:x.wf)(hk:x.kind=3):
 Calls Tryz.prog 191 #[.agg x.cells.toArray] w fun e w'=>e= .returned (.bool (yv x))∧Ext w w':=by
 have HS:=hiD (show yv x=(decide (0≤x.index) && decide (x.index < 1024) && decide (1≤x.count) && decide (x.count≤1024 - x.index) && x.name.toList == [] && x.frm == 0 && x.guid == 0 && x.data.toList == [] && xL x && decide (x.on=0))by rw [yv,if_neg (by omega)];rw [if_neg (by omega),if_pos hk])
 obtain⟨k,n,f,g,oA,on,oc,own,i,c,d,s0,s1,s2,s3⟩:=x
 obtain⟨⟨h1,h2⟩,⟨h3,h4⟩,⟨h5,h6⟩,⟨h7,h8⟩,⟨h9,h10⟩,h11,h12,h13,h14,h15⟩:=hx
 simp only at hk h1 h2 h3 h4 h5 h6 h7 h8 h9 h10 h11 h12 h13 h14 h15
 subst hk
 clear h13 h15
 generalize yv _=b at HS
 have hcase:i < 0∨(0≤i∧1024≤i)∨(0≤i∧i < 1024∧c < 1)∨(0≤i∧i < 1024∧1≤c∧1024 - i < c)∨(0≤i∧i < 1024∧1≤c∧c≤1024 - i):=by omega
 simp only [Rec.cells]
 rcases hcase with a0 | ⟨a0,a1⟩ | ⟨a0,a1,a2⟩ | ⟨a0,a1,a2,a3⟩ | ⟨a0,a1,a2,a3⟩
 all_goals
  go_enter Tryz.func191,Tryz.ntmps191
  go_wp2_with fail
  try go_region
  go_wp2_with (go_at_call 220;refine(abA _ ⟨3,n,f,g,oA,on,oc,own,i,c,d,s0,s1,s2,s3⟩ ⟨3,⟨#[]⟩,0,0,none,0,0, [],i,c,⟨#[]⟩,0,0,0,0⟩ h14 rfl rfl rfl).mono ?_;rintro e w3 ⟨rfl,e3⟩)
  all_goals (go_ret;refine⟨aaP ?_,blo⟩;rw [HS.out];(first | (simp [*,aap,xL];done) | (simp [*,aap,xL];omega) | trace_state))
theorem al2(w:World)(x:Rec)(hx:x.wf)(hk:x.kind=4):
 Calls Tryz.prog 191 #[.agg x.cells.toArray] w fun e w'=>e= .returned (.bool (yv x))∧Ext w w':=by
 have HS:=hiD (show yv x=(x.name.toList == [] && x.frm == 0 && x.guid == 0 && x.index == 0 && x.count == 0 && x.data.toList == [] && decide (x.on=0))by rw [yv,if_neg (by omega)];rw [if_neg (by omega),if_neg (by omega)])
 obtain⟨k,n,f,g,oA,on,oc,own,i,c,d,s0,s1,s2,s3⟩:=x
 obtain⟨⟨h1,h2⟩,⟨h3,h4⟩,⟨h5,h6⟩,⟨h7,h8⟩,⟨h9,h10⟩,h11,h12,h13,h14,h15⟩:=hx
 simp only at hk h1 h2 h3 h4 h5 h6 h7 h8 h9 h10 h11 h12 h13 h14 h15
 subst hk
 clear h13 h15
 generalize yv _=b at HS
 have hcase:0≤0:=by omega
 simp only [Rec.cells]
 rcases hcase with a0
 all_goals
  go_enter Tryz.func191,Tryz.ntmps191
  go_wp2_with fail
  try go_region
  go_wp2_with (go_at_call 220;refine(abA _ ⟨4,n,f,g,oA,on,oc,own,i,c,d,s0,s1,s2,s3⟩ ⟨4,⟨#[]⟩,0,0,none,0,0, [],0,0,⟨#[]⟩,s0,s1,s2,s3⟩ h14 rfl rfl rfl).mono ?_;rintro e w3 ⟨rfl,e3⟩)
  all_goals (go_ret;refine⟨aaP ?_,blo⟩;rw [HS.out];(first | (simp [*,aap,xL];done) | (simp [*,aap,xL];omega) | trace_state))
end Go.Proofs.YtckaneapjpiocaaGreatDoor
