import Derived.Test.YtocilenpboklbaaGreatDoorSyG
set_option maxRecDepth 100000
set_option linter.all false
namespace Go.Ev
theorem bx2 [Gv] : aq 4 [.str 6 120265264816498] 256 [] (.ret (.bool true)) 256 [] := ag (n := 20000) (A := []) (T := []) (E := .nil) (ai SAll.nil _ hcn) ac SAll.nil trivial rfl rfl (by kernel_rfl)
theorem bx3 [Gv] : aq 4 [.str 4 1835102307] 256 [] (.ret (.bool true)) 256 [] := ag (n := 20000) (A := []) (T := []) (E := .nil) (ai SAll.nil _ hcn) ac SAll.nil trivial rfl rfl (by kernel_rfl)
theorem bx4 [Gv] : aq 4 [.str 4 1702257004] 256 [] (.ret (.bool true)) 256 [] := ag (n := 20000) (A := []) (T := []) (E := .nil) (ai SAll.nil _ hcn) ac SAll.nil trivial rfl rfl (by kernel_rfl)
theorem bx5 [Gv] : aq 4 [.str 5 499968536439] 256 [] (.ret (.bool true)) 256 [] := ag (n := 20000) (A := []) (T := []) (E := .nil) (ai SAll.nil _ hcn) ac SAll.nil trivial rfl rfl (by kernel_rfl)
theorem bx6 [Gv] : aq 4 [.str 6 126896544047468] 256 [] (.ret (.bool true)) 256 [] := ag (n := 20000) (A := []) (T := []) (E := .nil) (ai SAll.nil _ hcn) ac SAll.nil trivial rfl rfl (by kernel_rfl)
theorem bx7 [Gv] : aq 4 [.str 5 435711799154] 256 [] (.ret (.bool true)) 256 [] := ag (n := 20000) (A := []) (T := []) (E := .nil) (ai SAll.nil _ hcn) ac SAll.nil trivial rfl rfl (by kernel_rfl)
theorem bx8 [Gv] : aq 4 [.str 4 1903520116] 256 [] (.ret (.bool true)) 256 [] := ag (n := 20000) (A := []) (T := []) (E := .nil) (ai SAll.nil _ hcn) ac SAll.nil trivial rfl rfl (by kernel_rfl)
theorem bx9 [Gv] : aq 4 [.str 13 9383403423059702669977579580517] 256 [] (.ret (.bool true)) 256 [] := ag (n := 20000) (A := []) (T := []) (E := .nil) (ai SAll.nil _ hcn) ac SAll.nil trivial rfl rfl (by kernel_rfl)
theorem bya [Gv] : aq 4 [.str 13 9383403423058555373549009858414] 256 [] (.ret (.bool true)) 256 [] := ag (n := 20000) (A := []) (T := []) (E := .nil) (ai SAll.nil _ hcn) ac SAll.nil trivial rfl rfl (by kernel_rfl)
theorem byb [Gv] : aq 4 [.str 19 2663757397314901095382322954879158356550184564] 256 [] (.ret (.bool true)) 256 [] := ag (n := 20000) (A := []) (T := []) (E := .nil) (ai SAll.nil _ hcn) ac SAll.nil trivial rfl rfl (by kernel_rfl)
theorem byc [Gv] : aq 4 [.str 25 749781051372049293057386538801311032636779409818639984915571] 256 [] (.ret (.bool true)) 256 [] := ag (n := 20000) (A := []) (T := []) (E := .nil) (ai SAll.nil _ hcn) ac SAll.nil trivial rfl rfl (by kernel_rfl)
theorem byd [Gv] : aq 4 [.str 17 33159458725503807014831810376311545685861] 256 [] (.ret (.bool true)) 256 [] := ag (n := 20000) (A := []) (T := []) (E := .nil) (ai SAll.nil _ hcn) ac SAll.nil trivial rfl rfl (by kernel_rfl)
theorem bye [Gv] : aq 4 [.str 11 117806099577798128716377970] 256 [] (.ret (.bool true)) 256 [] := ag (n := 20000) (A := []) (T := []) (E := .nil) (ai SAll.nil _ hcn) ac SAll.nil trivial rfl rfl (by kernel_rfl)
theorem byf [Gv] : aq 4 [.str 14 2260727785469235662364888815267698] 256 [] (.ret (.bool true)) 256 [] := ag (n := 20000) (A := []) (T := []) (E := .nil) (ai SAll.nil _ hcn) ac SAll.nil trivial rfl rfl (by kernel_rfl)
theorem byg [Gv] : aq 4 [.str 16 153388003480587613335266858083767381620] 256 [] (.ret (.bool true)) 256 [] := ag (n := 20000) (A := []) (T := []) (E := .nil) (ai SAll.nil _ hcn) ac SAll.nil trivial rfl rfl (by kernel_rfl)
theorem byh [Gv] : aq 4 [.str 8 7957628971446985576] 256 [] (.ret (.bool true)) 256 [] := ag (n := 20000) (A := []) (T := []) (E := .nil) (ai SAll.nil _ hcn) ac SAll.nil trivial rfl rfl (by kernel_rfl)
end Go.Ev
