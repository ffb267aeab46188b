/- RamTags: the law. -/
import Derived.Test.YtonehcpccklkoaaVm11t
set_option linter.unusedSimpArgs false
set_option linter.unusedVariables false
set_option linter.unnecessarySimpa false
namespace Go.Sx
open Go
theorem ramTags_r (k : Nat) (d : List (List AV)) (hl : d.length = k) (hf : fitsAll [.int .i64, .int .i64, .int .i64, .bool, .int .u64, .int .u64] d = true) (hn : k < 2 ^ 63) : t_RamTags_r k d = some (.bool true) := by
  unfold t_RamTags_r
  have hok : mtaOk (mta0 k d) := ⟨rfl, rfl, Mem.zero (by decide) (by decide) (by decide), Nat.le_refl _, hn, by simp⟩
  have hm : Mem 4096 (v_mta (mta0 k d)).tg (v_mta (mta0 k d)).d 256 (v_mta (mta0 k d)).T := (v_mta_ok hok).1
  have hb : g_mtb (MtbS.z 4096 (v_mta (mta0 k d)).tg 4096 (v_mta (mta0 k d)).d 256 256 (v_mta (mta0 k d)).T 0#64) = true := g_mtb_ok ⟨rfl, rfl, rfl, rfl, rfl, hm⟩
  have hll : (v_xtagged (v_mta (mta0 k d)).T 256).length < 2 ^ 63 := by
    have h1 := tgs_len (cB (v_mta (mta0 k d)).T) 256
    show (tgs (cB (v_mta (mta0 k d)).T) 256).length < 2 ^ 63
    omega
  rw [g_mta_ok hok, cond_true, hb, cond_true]
  simp only [hm.gtag, hm.tagged, ss_self hll, same_self, cond_true]
  cases v_emp (v_xtagged (v_mta (mta0 k d)).T 256) <;> rfl
theorem ramTags_n : t_RamTags_n = some (.bool true) := by
  unfold t_RamTags_n
  have hb : g_mtb (MtbS.z 4096 zT 4096 (zB 4096) 256 256 (zF 256) 0#64) = true := g_mtb_ok ⟨rfl, rfl, rfl, rfl, rfl, Mem.zero (by decide) (by decide) (by decide)⟩
  rw [hb]; rfl
end Go.Sx
