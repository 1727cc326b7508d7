/- The hand-made contracts that need nothing printed. -/
import Derived.Test.YtnmglnglbdpjjaaGreatDoorUbH0c
import Derived.Test.YtnmglnglbdpjjaaGreatDoorUbH0d
import Derived.Test.YtnmglnglbdpjjaaGreatDoorUbH0e
import Derived.Test.YtnmglnglbdpjjaaGreatDoorUbBld

