import Derived.Test.YtocilenpboklbaaGreatDoorSyG
set_option maxRecDepth 100000
set_option linter.all false
namespace Go.Ev
theorem cn0 [Gv] : aq 4 [.str 3 7235948] 256 [] (.ret (.bool true)) 256 [] := ag (n := 20000) (A := []) (T := []) (E := .nil) (ai SAll.nil _ hcn) ac SAll.nil trivial rfl rfl (by kernel_rfl)
theorem cn1 [Gv] : aq 4 [.str 1 116] 256 [] (.ret (.bool true)) 256 [] := ag (n := 20000) (A := []) (T := []) (E := .nil) (ai SAll.nil _ hcn) ac SAll.nil trivial rfl rfl (by kernel_rfl)
theorem cn2 [Gv] : aq 4 [.str 5 487301543013] 256 [] (.ret (.bool true)) 256 [] := ag (n := 20000) (A := []) (T := []) (E := .nil) (ai SAll.nil _ hcn) ac SAll.nil trivial rfl rfl (by kernel_rfl)
theorem cn3 [Gv] : aq 4 [.str 8 7382928537577680750] 256 [] (.ret (.bool true)) 256 [] := ag (n := 20000) (A := []) (T := []) (E := .nil) (ai SAll.nil _ hcn) ac SAll.nil trivial rfl rfl (by kernel_rfl)
theorem cn4 [Gv] : aq 4 [.str 1 96] 256 [] (.ret (.bool true)) 256 [] := ag (n := 20000) (A := []) (T := []) (E := .nil) (ai SAll.nil _ hcn) ac SAll.nil trivial rfl rfl (by kernel_rfl)
theorem cn5 [Gv] : aq 4 [.str 1 44] 256 [] (.ret (.bool true)) 256 [] := ag (n := 20000) (A := []) (T := []) (E := .nil) (ai SAll.nil _ hcn) ac SAll.nil trivial rfl rfl (by kernel_rfl)
theorem cn6 [Gv] : aq 4 [.str 2 11328] 256 [] (.ret (.bool true)) 256 [] := ag (n := 20000) (A := []) (T := []) (E := .nil) (ai SAll.nil _ hcn) ac SAll.nil trivial rfl rfl (by kernel_rfl)
theorem cn7 [Gv] : aq 4 [.str 6 119165702792289] 256 [] (.ret (.bool true)) 256 [] := ag (n := 20000) (A := []) (T := []) (E := .nil) (ai SAll.nil _ hcn) ac SAll.nil trivial rfl rfl (by kernel_rfl)
theorem cn8 [Gv] : aq 4 [.str 7 27985248628601445] 256 [] (.ret (.bool true)) 256 [] := ag (n := 20000) (A := []) (T := []) (E := .nil) (ai SAll.nil _ hcn) ac SAll.nil trivial rfl rfl (by kernel_rfl)
theorem cn9 [Gv] : aq 4 [.str 5 469785342575] 256 [] (.ret (.bool true)) 256 [] := ag (n := 20000) (A := []) (T := []) (E := .nil) (ai SAll.nil _ hcn) ac SAll.nil trivial rfl rfl (by kernel_rfl)
theorem bxg [Gv] : aq 4 [.str 5 165128008564] 256 [] (.ret (.bool true)) 256 [] := ag (n := 20000) (A := []) (T := []) (E := .nil) (ai SAll.nil _ hcn) ac SAll.nil trivial rfl rfl (by kernel_rfl)
theorem bxh [Gv] : aq 4 [.str 9 709006320932754448748] 256 [] (.ret (.bool true)) 256 [] := ag (n := 20000) (A := []) (T := []) (E := .nil) (ai SAll.nil _ hcn) ac SAll.nil trivial rfl rfl (by kernel_rfl)
theorem bxi [Gv] : aq 4 [.str 2 26982] 256 [] (.ret (.bool true)) 256 [] := ag (n := 20000) (A := []) (T := []) (E := .nil) (ai SAll.nil _ hcn) ac SAll.nil trivial rfl rfl (by kernel_rfl)
theorem bxj [Gv] : aq 4 [.str 4 1668247140] 256 [] (.ret (.bool true)) 256 [] := ag (n := 20000) (A := []) (T := []) (E := .nil) (ai SAll.nil _ hcn) ac SAll.nil trivial rfl rfl (by kernel_rfl)
theorem bxk [Gv] : aq 4 [.str 3 6385252] 256 [] (.ret (.bool true)) 256 [] := ag (n := 20000) (A := []) (T := []) (E := .nil) (ai SAll.nil _ hcn) ac SAll.nil trivial rfl rfl (by kernel_rfl)
theorem bxl [Gv] : aq 4 [.str 2 28530] 256 [] (.ret (.bool true)) 256 [] := ag (n := 20000) (A := []) (T := []) (E := .nil) (ai SAll.nil _ hcn) ac SAll.nil trivial rfl rfl (by kernel_rfl)
end Go.Ev
