import Derived.Test.YtocilenpboklbaaGreatDoorSyG
set_option maxRecDepth 100000
set_option linter.all false
namespace Go.Ev
theorem bxm [Gv] : aq 4 [.str 5 512852847717] 256 [] (.ret (.bool true)) 256 [] := ag (n := 20000) (A := []) (T := []) (E := .nil) (ai SAll.nil _ hcn) ac SAll.nil trivial rfl rfl (by kernel_rfl)
theorem bxn [Gv] : aq 4 [.str 5 482956240750] 256 [] (.ret (.bool true)) 256 [] := ag (n := 20000) (A := []) (T := []) (E := .nil) (ai SAll.nil _ hcn) ac SAll.nil trivial rfl rfl (by kernel_rfl)
theorem bxo [Gv] : aq 4 [.str 5 482956240689] 256 [] (.ret (.bool true)) 256 [] := ag (n := 20000) (A := []) (T := []) (E := .nil) (ai SAll.nil _ hcn) ac SAll.nil trivial rfl rfl (by kernel_rfl)
theorem bxp [Gv] : aq 4 [.str 4 1936028785] 256 [] (.ret (.bool true)) 256 [] := ag (n := 20000) (A := []) (T := []) (E := .nil) (ai SAll.nil _ hcn) ac SAll.nil trivial rfl rfl (by kernel_rfl)
theorem bxq [Gv] : aq 4 [.str 3 7103860] 256 [] (.ret (.bool true)) 256 [] := ag (n := 20000) (A := []) (T := []) (E := .nil) (ai SAll.nil _ hcn) ac SAll.nil trivial rfl rfl (by kernel_rfl)
theorem bxr [Gv] : aq 4 [.str 4 1818588202] 256 [] (.ret (.bool true)) 256 [] := ag (n := 20000) (A := []) (T := []) (E := .nil) (ai SAll.nil _ hcn) ac SAll.nil trivial rfl rfl (by kernel_rfl)
theorem bxs [Gv] : aq 4 [.str 5 426836779880] 256 [] (.ret (.bool true)) 256 [] := ag (n := 20000) (A := []) (T := []) (E := .nil) (ai SAll.nil _ hcn) ac SAll.nil trivial rfl rfl (by kernel_rfl)
theorem bxt [Gv] : aq 4 [.str 14 2381793977678502578102143874851700] 256 [] (.ret (.bool true)) 256 [] := ag (n := 20000) (A := []) (T := []) (E := .nil) (ai SAll.nil _ hcn) ac SAll.nil trivial rfl rfl (by kernel_rfl)
theorem bxu [Gv] : aq 4 [.str 14 2016787041542256923290239124992869] 256 [] (.ret (.bool true)) 256 [] := ag (n := 20000) (A := []) (T := []) (E := .nil) (ai SAll.nil _ hcn) ac SAll.nil trivial rfl rfl (by kernel_rfl)
theorem bxv [Gv] : aq 4 [.str 6 110386673508722] 256 [] (.ret (.bool true)) 256 [] := ag (n := 20000) (A := []) (T := []) (E := .nil) (ai SAll.nil _ hcn) ac SAll.nil trivial rfl rfl (by kernel_rfl)
theorem bxw [Gv] : aq 4 [.str 8 7234300953697874804] 256 [] (.ret (.bool true)) 256 [] := ag (n := 20000) (A := []) (T := []) (E := .nil) (ai SAll.nil _ hcn) ac SAll.nil trivial rfl rfl (by kernel_rfl)
theorem bxx [Gv] : aq 4 [.str 5 431197943150] 256 [] (.ret (.bool true)) 256 [] := ag (n := 20000) (A := []) (T := []) (E := .nil) (ai SAll.nil _ hcn) ac SAll.nil trivial rfl rfl (by kernel_rfl)
theorem bxy [Gv] : aq 4 [.str 8 7234300996411945583] 256 [] (.ret (.bool true)) 256 [] := ag (n := 20000) (A := []) (T := []) (E := .nil) (ai SAll.nil _ hcn) ac SAll.nil trivial rfl rfl (by kernel_rfl)
theorem bxz [Gv] : aq 4 [.str 11 127458818504976499584104037] 256 [] (.ret (.bool true)) 256 [] := ag (n := 20000) (A := []) (T := []) (E := .nil) (ai SAll.nil _ hcn) ac SAll.nil trivial rfl rfl (by kernel_rfl)
theorem bx0 [Gv] : aq 4 [.str 7 28839564598668396] 256 [] (.ret (.bool true)) 256 [] := ag (n := 20000) (A := []) (T := []) (E := .nil) (ai SAll.nil _ hcn) ac SAll.nil trivial rfl rfl (by kernel_rfl)
theorem bx1 [Gv] : aq 4 [.str 5 418498243705] 256 [] (.ret (.bool true)) 256 [] := ag (n := 20000) (A := []) (T := []) (E := .nil) (ai SAll.nil _ hcn) ac SAll.nil trivial rfl rfl (by kernel_rfl)
end Go.Ev
