import Derived.Test.YtphfnjcboellhaaGreatDoorProg
import Derived.Test.YtphfnjcboellhaaGreatDoorWordPlain
import Derived.WalkKit
import Derived.Deep.QuietTactic
import Derived.BigQuiet
import Derived.Lib.Hide
namespace Go.Proofs.YtphfnjcboellhaaGreatDoor.word
open Go.RowKit
open Go
theorem ret_int {k : IntKind} {a b : Int} (h : a = b) : Ending.returned (.int k a) = .returned (.int k b) := by rw [h]
def Quiet (w w' : World) : Prop := ∃ n, w' = w.drewN n
theorem Quiet.refl (w : World) : Quiet w w := ⟨0, rfl⟩
theorem Step_any (c n m : Int) (w : World) (hc : 0 <= c) (hn : 0 <= n) (hm : 0 <= m) (hm' : m <= 4294967295) :
 Calls Tryz.prog 155 #[.int .u32 c, .int .u32 n, .int .u32 m] w fun e w' => e = .returned (.int .u32 (stepU c n m)) /\ Quiet w w' := by
 by_cases h0 : m = 0
 · have HS : Hid (stepU c n m = 0) := Lib.hid (by unfold stepU; rw [if_pos h0])
   have h0' : (m == 0) = true := by simpa using h0
   clear h0
   go_enter Tryz.func155, Tryz.ntmps155
   go_wp2
   go_ret
   exact ⟨ret_int HS.out.symm, Quiet.refl _⟩
 · have h0' : (m == 0) = false := by simpa using h0
   have hp : 0 < m := by omega
   have h1 := Int.emod_lt_of_pos c hp
   have h2 := Int.emod_lt_of_pos n hp
   have h3 := Int.emod_nonneg c h0
   have h4 := Int.emod_nonneg n h0
   clear h0
   by_cases h : m - c % m <= n % m
   · have HS := Lib.hid (step_hi hp h)
     go_enter Tryz.func155, Tryz.ntmps155
     go_wp2
     go_quiet (fail)
     go_wp2
     go_ret
     exact ⟨ret_int HS.out, _, rfl⟩
   · have h' : n % m < m - c % m := by omega
     have HS := Lib.hid (step_lo hp h')
     go_enter Tryz.func155, Tryz.ntmps155
     go_wp2
     go_quiet (fail)
     go_wp2
     go_ret
     exact ⟨ret_int HS.out, _, rfl⟩
theorem Gap_any (c n m : Int) (w : World) (hc : 0 <= c) (hn : 0 <= n) (hm : 0 <= m) (hm' : m <= 4294967295) :
 Calls Tryz.prog 141 #[.int .u32 c, .int .u32 n, .int .u32 m] w fun e w' => e = .returned (.int .u32 (gapU c n m)) /\ Quiet w w' := by
 by_cases h0 : m = 0
 · have HS : Hid (gapU c n m = 0) := Lib.hid (by unfold gapU; rw [if_pos h0])
   have h0' : (m == 0) = true := by simpa using h0
   clear h0
   go_enter Tryz.func141, Tryz.ntmps141
   go_wp2
   go_ret
   exact ⟨ret_int HS.out.symm, Quiet.refl _⟩
 · have h0' : (m == 0) = false := by simpa using h0
   have hp : 0 < m := by omega
   have h1 := Int.emod_lt_of_pos c hp
   have h2 := Int.emod_lt_of_pos n hp
   have h3 := Int.emod_nonneg c h0
   have h4 := Int.emod_nonneg n h0
   clear h0
   by_cases h : n % m < c % m
   · have HS := Lib.hid (gap_hi hp h)
     go_enter Tryz.func141, Tryz.ntmps141
     go_wp2
     go_quiet (fail)
     go_wp2
     go_ret
     exact ⟨ret_int HS.out, _, rfl⟩
   · have h' : c % m <= n % m := by omega
     have HS := Lib.hid (gap_lo hp h')
     go_enter Tryz.func141, Tryz.ntmps141
     go_wp2
     go_quiet (fail)
     go_wp2
     go_ret
     exact ⟨ret_int HS.out, _, rfl⟩
theorem Next_any (c m : Int) (w : World) (hc : 0 <= c) (hm : 0 <= m) (hm' : m <= 4294967295) :
 Calls Tryz.prog 139 #[.int .u32 c, .int .u32 m] w fun e w' => e = .returned (.int .u32 (stepU c 1 m)) /\ Quiet w w' := by
 go_enter Tryz.func139, Tryz.ntmps139
 go_wp2_with (go_at_call 155; refine (Step_any _ _ _ _ hc (by omega) hm hm').mono ?_; rintro e w' ⟨rfl, n, rfl⟩)
 go_ret
 exact ⟨rfl, _, rfl⟩
end Go.Proofs.YtphfnjcboellhaaGreatDoor.word
