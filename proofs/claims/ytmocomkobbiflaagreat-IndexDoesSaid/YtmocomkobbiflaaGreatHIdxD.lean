/- Lemmas, merged out of smaller texts (wip/tools/mergedce.py). No condition. -/
import Derived.BigQuiet
import Derived.Test.YtmocomkobbiflaaGreatHTrod
import Derived.Test.YtmocomkobbiflaaGreatHIdxB
import Derived.Test.YtmocomkobbiflaaGreatHIdxC
section
open Go.RowKit
set_option linter.unusedVariables false
set_option linter.unusedSimpArgs false
namespace Go.Proofs.YtmocomkobbiflaaGreat
def FewP (ms : List DoM) (k : Int) (w : World) (e : Ending) (w' : World) : Prop := ∃ b,e = .returned (.bool b) ∧ (b = true → (ms.length : Int) ≤ k) ∧ w = w'
set_option maxHeartbeats 4000000 in
set_option maxRecDepth 100000 in
theorem few33_any (v : Value) (ms : List DoM) (k : Int) (w : World) (h : DosR w v ms) :
  Calls Tryz.prog 12 #[v,.int .i64 k] w (FewP ms k w) := by
 have hh := hide h
 obtain ⟨ao,cap,rfl,h1,h2⟩ := RdS.shape h.1
 obtain ⟨n,hn⟩ : ∃ n,n = ms.length := ⟨_,rfl⟩
 have hn63 : (n : Int) ≤ 9223372036854775807 := by unfold maxLen at h2;omega
 rw [← hn] at hh ⊢
 replace hn := hide hn
 clear h h1 h2
 by_cases hk : k < (n : Int)
 ·go_enter Tryz.func12,Tryz.ntmps12
  go_wp2
  go_ret
  exact ⟨_,rfl,(fun h => by cases h),rfl⟩
 ·have hkh := hide hk
  go_enter Tryz.func12,Tryz.ntmps12
  go_wp2
  go_loopg [5] n (fun gh t wr => ∃ (i : Nat),gh = n - i ∧ i ≤ n ∧ t = .int .i64 (i : Int) ∧ w = wr)
  case atStart => exact ⟨0,rfl,Nat.zero_le _,rfl,rfl⟩
  case round =>
   obtain ⟨i,hgh,hi,rfl,rfl⟩ := hrel
   replace hgh := hide hgh
   by_cases hlt : i < n
   ·have hlt2 := hide hlt
    have hil : i < ms.length := by rw [← hn.out];exact hlt
    obtain ⟨b,off,rfl,hbb,hcell⟩ := hh.out.1.at_ hil
    obtain ⟨m,hm⟩ : ∃ m,m = ms[i] := ⟨_,rfl⟩
    have hmi : ms[i]? = some m := by rw [hm];exact List.getElem?_eq_getElem hil
    have hd := hh.out.2 m (by rw [hm];exact List.getElem_mem _)
    obtain ⟨⟨t,k2,⟨la,lb⟩⟩,mv,bv⟩ := m
    obtain ⟨a1,a2,a3,rfl⟩ := hd.1.1.shape
    obtain ⟨b1,b2,b3,rfl⟩ := hd.1.2.shape
    have c2 : w.cell? ⟨b,off + i * 4 + 2,none⟩ = some (.slice a1 a2 a3) := hcell i _ hmi 2 _ rfl
    have c3 : w.cell? ⟨b,off + i * 4 + 2 + 1,none⟩ = some (.slice b1 b2 b3) := hcell i _ hmi 3 _ rfl
    have c4 : w.cell? ⟨b,off + i * 4 + 3,none⟩ = some (.slice b1 b2 b3) := hcell i _ hmi 3 _ rfl
    have i1 : (0 : Int) ≤ (i : Int) := by omega
    have i2 : (i : Int) < (n : Int) := by omega
    clear hcell hm hmi hd
    by_cases q1 : (30 : Int) < (a2 : Int)
    ·go_wp2
     go_ret
     exact ⟨_,rfl,(fun h => by cases h),rfl⟩
    ·by_cases q2 : (30 : Int) < (b2 : Int)
     ·go_wp2
      go_ret
      exact ⟨_,rfl,(fun h => by cases h),rfl⟩
     ·go_wp2
      go_roundg (n - (i + 1))
      case measure => have := hgh.out;have := hlt2.out;omega
      case rel => exact ⟨i + 1,rfl,by have := hlt2.out;omega,by (have := hlt2.out;go_num),rfl⟩
   ·obtain rfl : n = i := by omega
    go_wp2
    go_ret
    exact ⟨_,rfl,(fun _ => by have := hkh.out;have := hn.out;omega),rfl⟩
theorem build_len (g : GameD) (ds : List EntD) : (buildX g ds).length ≤ ds.length := by
 refine snocInd (P := fun ds => (buildX g ds).length ≤ ds.length) (by simp [buildX]) (fun l x ih => ?_) ds
 rw [build_snoc]
 unfold putX
 split
 ·simp;omega
 ·simp;omega
end Go.Proofs.YtmocomkobbiflaaGreat
end
